/- A row, as the code makes it. -/
import Derived.Test.YtnlocpldghpfcaaHalfE
namespace Go.Proofs.Ytnlocpldghpfcaa
open Go Go.RowKit Coup

theorem may10r (c n : Int) (w : World) : Calls Try.prog 10 [.agg #[.int .u64 c, .int .i64 n]].toArray w (Ret fun v w' => v = .bool (mayT c n) ∧ Below w.heap.size w w') := calls_ret (may10 c n w)
theorem need12r (n : Int) (w : World) : Calls Try.prog 12 [.int .i64 n].toArray w (Ret fun v w' => v = .int .i64 (needZ n) ∧ w = w') := calls_ret (need12 n w)
theorem bytes27r (c n p m : Nat) (b : List UInt8) (hb : b.length = 48) (hc : c < 18446744073709551616) (hn : n < 4294967296) (hp : p < 65536) (hm : m < 65536) (w : World) :
    Calls Try.prog 27 [.agg (pieceL c n p m b).toArray].toArray w (Ret fun v w' => v = .agg (bv (halfB c n p m b)).toArray ∧ Below w.heap.size w w') := calls_ret (bytes27 c n p m b hb hc hn hp hm w)
def needN (n : Nat) : Nat := (manyN n + 1) / 2
/-- A row's bytes, sector by sector. -/
def rowB (c n : Nat) (b : List UInt8) : List UInt8 := (halvesL c n b).flatten ++ zerosB (128 * needN b.length - 64 * manyN b.length)
/-- As far as it is made. -/
def rowTo (c n : Nat) (b : List UInt8) (k : Nat) : List UInt8 := ((halvesL c n b).take k).flatten ++ zerosB (128 * needN b.length - 64 * k)
theorem halvesL_get (c n : Nat) (b : List UInt8) (k : Nat) (hk : k < manyN b.length) : (halvesL c n b)[k]? = some (halfB c n k (manyN b.length) (pieceB b k)) := by
  rw [halvesL, List.getElem?_map, List.getElem?_range hk]; rfl
theorem flat_len (c n : Nat) (b : List UInt8) : ∀ k, k ≤ manyN b.length → ((halvesL c n b).take k).flatten.length = 64 * k
  | 0, _ => rfl
  | k + 1, h => by
    rw [List.take_add_one, halvesL_get c n b k (by omega), List.flatten_append, List.length_append, flat_len c n b k (by omega)]
    simp [halfB_length, pieceB_length b k (by omega)]
    omega
theorem rowTo_len (c n : Nat) (b : List UInt8) (k : Nat) (h : k ≤ manyN b.length) : (rowTo c n b k).length = 128 * needN b.length := by
  rw [rowTo, List.length_append, flat_len c n b k h, zerosB, List.length_replicate]
  unfold needN; omega
theorem rowTo_step (c n : Nat) (b : List UInt8) (k : Nat) (h : k < manyN b.length) : splice (bv (rowTo c n b k)) (64 * k) (bv (halfB c n k (manyN b.length) (pieceB b k))) = bv (rowTo c n b (k + 1)) := by
  have h1 := flat_len c n b k (by omega)
  have h2 : (halfB c n k (manyN b.length) (pieceB b k)).length = 64 := by rw [halfB_length, pieceB_length b k h]
  have h3 : zerosB (128 * needN b.length - 64 * k) = zerosB 64 ++ zerosB (128 * needN b.length - 64 * (k + 1)) := by
    rw [zerosB, zerosB, zerosB, List.replicate_append_replicate]
    congr 1
    unfold needN; omega
  have h4 : (halvesL c n b).take (k + 1) = (halvesL c n b).take k ++ [halfB c n k (manyN b.length) (pieceB b k)] := by
    rw [List.take_add_one, halvesL_get c n b k h]; rfl
  have h5 : bv (rowTo c n b k) = bv ((halvesL c n b).take k).flatten ++ (bv (zerosB 64) ++ bv (zerosB (128 * needN b.length - 64 * (k + 1)))) := by rw [rowTo, h3]; simp only [bv_append]
  have h6 : bv (rowTo c n b (k + 1)) = bv ((halvesL c n b).take k).flatten ++ (bv (halfB c n k (manyN b.length) (pieceB b k)) ++ bv (zerosB (128 * needN b.length - 64 * (k + 1)))) := by
    rw [rowTo, h4]; simp [bv_append]
  rw [h5, h6]
  have h7 : (bv ((halvesL c n b).take k).flatten).length = 64 * k := by rw [bv_length, h1]
  have := splice_head (bv ((halvesL c n b).take k).flatten) (bv (zerosB 64)) (bv (halfB c n k (manyN b.length) (pieceB b k))) (bv (zerosB (128 * needN b.length - 64 * (k + 1)))) (by rw [bv_length, bv_length, h2]; rfl)
  rw [h7] at this
  exact this

theorem rn_piece {ρ : Env} {w : World} {d : Option Nat} {ty : TypeId} {pos : String} {af : Array Edge} {gd : Option (Nat × Bool)} {x0 x1 x2 x3 : Operand} {c n p m : Int} {b : List UInt8} (hb : b.length = 48)
    (h0 : ev ρ x0 = .agg #[.int .u64 c, .int .i64 n]) (h1 : ev ρ x1 = .int .i64 p) (h2 : ev ρ x2 = .int .i64 m) (h3 : ev ρ x3 = .agg (bv b).toArray) :
    (execOp (ev ρ) ⟨d, .build 61 #[(0, x0), (1, x1), (2, x2), (3, x3)], ty, pos, af, gd⟩).run Try.prog w = .ok (.value (.agg (pieceL c n p m b).toArray)) w := by
  have hl : (bv b).length = 48 := by rw [bv_length, hb]
  have := rn_build (P := Try.prog) (ρ := ρ) (w := w) (d := d) (ty := ty) (pos := pos) (af := af) (gd := gd) (t := 61) (parts := [(0, x0), (1, x1), (2, x2), (3, x3)]) (k := 52) [(0, .agg #[.int .u64 c, .int .i64 n]), (1, .int .i64 p), (2, .int .i64 m), (3, .agg (bv b).toArray)]
    [(0, 2), (2, 1), (3, 1), (4, 48)] (by kernel_rfl) (by kernel_rfl) (by simp [h0, h1, h2, h3])
    (by intro i hi; rcases i with _ | _ | _ | _ | i <;> first | (simp [Value.cells, hl]; done) | (exfalso; simp only [List.length_cons, List.length_nil] at hi; omega)) (by simp [Value.cells, hl])
  have e : (([(0, Value.agg #[Value.int IntKind.u64 c, Value.int IntKind.i64 n]), (1, Value.int IntKind.i64 p), (2, Value.int IntKind.i64 m), (3, Value.agg (bv b).toArray)] : List (Nat × Value)).map fun q => q.2.cells.toList).flatten = pieceL c n p m b := by simp [Value.cells, pieceL]
  rw [e] at this
  exact this

theorem may_bounds {c nn : Int} (h : mayT c nn = true) : 1 ≤ c ∧ c ≤ 4611686018427387904 ∧ 0 ≤ nn ∧ nn < 2147483648 := by
  rcases may_cases c nn with ⟨HM, _⟩ | ⟨HM, _⟩ | ⟨HM, _⟩ | ⟨HM, _⟩ | ⟨_, h1⟩
  · rw [HM.out] at h; cases h
  · rw [HM.out] at h; cases h
  · rw [HM.out] at h; cases h
  · rw [HM.out] at h; cases h
  · exact h1
theorem split_no (c nn : Int) (hm : mayT c nn = false) (p : Option Addr) (n cp : Nat) (w : World) :
    Calls Try.prog 9 [.agg #[.int .u64 c, .int .i64 nn], .slice p n cp].toArray w (Ret fun v w' => v = .tuple #[.slice none 0 0, .int .i64 2] ∧ Below w.heap.size w w') := by
  have hB := Below.refl w.heap.size w
  refine calls_W (fn := Try.f9) (rs := [.tmp 4, .tmp 5]) (n := 45) Try.func9 rfl rfl Try.ntmps9 (by kernel_rfl) rfl ?_
  refine W_seq ?_
  refine W_region ?_
  refine WR_mk rfl (mk_box ([.int .u64 c, .int .i64 nn]) rfl (fun g2 w2 hg2 hr2 hb2 => ?_))
  have ge_hB_g2 := Nat.le_trans hB.size hg2
  replace hB := hB.acc hb2
  refine WR_mk rfl (mk_box ([.slice p n cp]) rfl (fun g3 w3 hg3 hr3 hb3 => ?_))
  have ge_hB_g3 := Nat.le_trans hB.size hg3
  have lt_g2_g3 : g2 < g3 := Nat.lt_of_lt_of_le hr2.lt hg3
  replace hr2 := hr2.new hb3
  replace hB := hB.acc hb3
  refine WR_val rfl (rn_assign) ?_
  refine WR_val rfl (rn_assign) ?_
  refine WR_nil ?_
  refine thenN ?_
  refine W_seq ?_
  refine W_block ?_
  refine W_seq ?_
  refine W_region ?_
  refine WR_val rfl (rn_load rfl (Ld.rowA (k := 2) hr2 (by kernel_rfl) (by kernel_rfl) (by first | (simp; done) | (simp [bv_length, *]; done)))) ?_
  refine WR_ent rfl (rn_call (by kernel_rfl) rfl) (may10r c nn w3) ?_
  rintro _ w12 ⟨rfl, hb12⟩
  replace hr2 := hr2.new hb12
  replace hr3 := hr3.new hb12
  replace hB := hB.acc hb12
  refine WR_val rfl (rn_not rfl) ?_
  refine WR_val rfl (rn_assign) ?_
  refine WR_nil ?_
  refine thenN ?_
  refine W_tnb rfl (hm) ?_
  refine W_seq ?_
  refine W_region ?_
  refine WR_val rfl (rn_assign) ?_
  refine WR_val rfl (rn_assign) ?_
  refine WR_nil ?_
  refine thenN ?_
  refine W_ret ?_
  refine blockR ?_
  refine thenR ?_
  refine ret_ret [_, _] ⟨rfl, rfl, trivial⟩ ?_
  exact ⟨rfl, hB⟩
theorem split_long (c nn : Int) (hm : mayT c nn = true) (p : Option Addr) (n cp : Nat) (hn : 32768 < n) (w : World) :
    Calls Try.prog 9 [.agg #[.int .u64 c, .int .i64 nn], .slice p n cp].toArray w (Ret fun v w' => v = .tuple #[.slice none 0 0, .int .i64 3] ∧ Below w.heap.size w w') := by
  have hB := Below.refl w.heap.size w
  refine calls_W (fn := Try.f9) (rs := [.tmp 4, .tmp 5]) (n := 45) Try.func9 rfl rfl Try.ntmps9 (by kernel_rfl) rfl ?_
  refine W_seq ?_
  refine W_region ?_
  refine WR_mk rfl (mk_box ([.int .u64 c, .int .i64 nn]) rfl (fun g2 w2 hg2 hr2 hb2 => ?_))
  have ge_hB_g2 := Nat.le_trans hB.size hg2
  replace hB := hB.acc hb2
  refine WR_mk rfl (mk_box ([.slice p n cp]) rfl (fun g3 w3 hg3 hr3 hb3 => ?_))
  have ge_hB_g3 := Nat.le_trans hB.size hg3
  have lt_g2_g3 : g2 < g3 := Nat.lt_of_lt_of_le hr2.lt hg3
  replace hr2 := hr2.new hb3
  replace hB := hB.acc hb3
  refine WR_val rfl (rn_assign) ?_
  refine WR_val rfl (rn_assign) ?_
  refine WR_nil ?_
  refine thenN ?_
  refine W_seq ?_
  refine W_block ?_
  refine W_seq ?_
  refine W_region ?_
  refine WR_val rfl (rn_load rfl (Ld.rowA (k := 2) hr2 (by kernel_rfl) (by kernel_rfl) (by first | (simp; done) | (simp [bv_length, *]; done)))) ?_
  refine WR_ent rfl (rn_call (by kernel_rfl) rfl) (may10r c nn w3) ?_
  rintro _ w12 ⟨rfl, hb12⟩
  replace hr2 := hr2.new hb12
  replace hr3 := hr3.new hb12
  replace hB := hB.acc hb12
  refine WR_val rfl (rn_not rfl) ?_
  refine WR_val rfl (rn_assign) ?_
  refine WR_nil ?_
  refine thenN ?_
  refine W_fnb rfl (hm) ?_
  refine W_seq ?_
  refine W_region ?_
  refine WR_val rfl (rn_load rfl (Ld.row1 hr3 (by kernel_rfl) rfl)) ?_
  refine WR_val rfl (rn_lenSl (e := 5) (sz := 1) (by kernel_rfl) rfl rfl) ?_
  refine WR_val rfl (rn_gtr rfl rfl) ?_
  refine WR_val rfl (rn_assign) ?_
  refine WR_nil ?_
  refine thenN ?_
  refine W_tp rfl ((by omega)) ?_
  refine W_seq ?_
  refine W_region ?_
  refine WR_val rfl (rn_assign) ?_
  refine WR_val rfl (rn_assign) ?_
  refine WR_nil ?_
  refine thenN ?_
  refine W_ret ?_
  refine blockR ?_
  refine thenR ?_
  refine ret_ret [_, _] ⟨rfl, rfl, trivial⟩ ?_
  exact ⟨rfl, hB⟩
set_option maxHeartbeats 1000000 in
theorem split_yes (c nn : Nat) (hm : mayT c nn = true) (b : List UInt8) (p : Option Addr) (n cp : Nat) (w : World) (h : SlAt w p n 1 (bv b)) (hn : n ≤ 32768) :
    Calls Try.prog 9 [.agg #[.int .u64 c, .int .i64 nn], .slice p n cp].toArray w
      (Ret fun v w' => ∃ g, v = .tuple #[.slice (some ⟨g, 0, none⟩) (needN n) (needN n), .int .i64 0] ∧ w.heap.size ≤ g ∧ row w' g (bv (rowB c nn b)) 48 ∧ Below w.heap.size w w') := by
  have hB := Below.refl w.heap.size w
  have hl : b.length = n := by simpa [bv_length] using h.len
  have hnz : needZ n = (needN n : Nat) := needZ_nat hn
  have hmb := may_bounds hm
  have hnb : needN n ≤ 1000 := by unfold needN manyN; omega
  have hnn : needN n = (manyN n + 1) / 2 := rfl
  refine calls_W (fn := Try.f9) (rs := [.tmp 4, .tmp 5]) (n := 45) Try.func9 rfl rfl Try.ntmps9 (by kernel_rfl) rfl ?_
  refine W_seq ?_
  refine W_region ?_
  refine WR_mk rfl (mk_box ([.int .u64 c, .int .i64 nn]) rfl (fun g2 w2 hg2 hr2 hb2 => ?_))
  have ge_hB_g2 := Nat.le_trans hB.size hg2
  replace hB := hB.acc hb2
  refine WR_mk rfl (mk_box ([.slice p n cp]) rfl (fun g3 w3 hg3 hr3 hb3 => ?_))
  have ge_hB_g3 := Nat.le_trans hB.size hg3
  have lt_g2_g3 : g2 < g3 := Nat.lt_of_lt_of_le hr2.lt hg3
  replace hr2 := hr2.new hb3
  replace hB := hB.acc hb3
  refine WR_val rfl (rn_assign) ?_
  refine WR_val rfl (rn_assign) ?_
  refine WR_nil ?_
  refine thenN ?_
  refine W_seq ?_
  refine W_block ?_
  refine W_seq ?_
  refine W_region ?_
  refine WR_val rfl (rn_load rfl (Ld.rowA (k := 2) hr2 (by kernel_rfl) (by kernel_rfl) (by first | (simp; done) | (simp [bv_length, *]; done)))) ?_
  refine WR_ent rfl (rn_call (by kernel_rfl) rfl) (may10r c nn w3) ?_
  rintro _ w12 ⟨rfl, hb12⟩
  replace hr2 := hr2.new hb12
  replace hr3 := hr3.new hb12
  replace hB := hB.acc hb12
  refine WR_val rfl (rn_not rfl) ?_
  refine WR_val rfl (rn_assign) ?_
  refine WR_nil ?_
  refine thenN ?_
  refine W_fnb rfl (hm) ?_
  refine W_seq ?_
  refine W_region ?_
  refine WR_val rfl (rn_load rfl (Ld.row1 hr3 (by kernel_rfl) rfl)) ?_
  refine WR_val rfl (rn_lenSl (e := 5) (sz := 1) (by kernel_rfl) rfl rfl) ?_
  refine WR_val rfl (rn_gtr rfl rfl) ?_
  refine WR_val rfl (rn_assign) ?_
  refine WR_nil ?_
  refine thenN ?_
  refine W_fp rfl ((by omega)) ?_
  refine W_skip ?_
  refine blockN ?_
  refine thenN ?_
  refine W_seq ?_
  refine W_region ?_
  refine WR_val rfl (rn_load rfl (Ld.row1 hr3 (by kernel_rfl) rfl)) ?_
  refine WR_val rfl (rn_lenSl (e := 5) (sz := 1) (by kernel_rfl) rfl rfl) ?_
  refine WR_ent rfl (rn_call (by kernel_rfl) rfl) (need12r n w12) ?_
  rintro _ _ ⟨rfl, rfl⟩
  refine WR_mk rfl (mk_make (e := 48) (needN n) (bv (zerosB 128)) 128 128 (byteV 0) (by kernel_rfl) (by kernel_rfl) ⟨_, rfl, hnz⟩ ⟨_, rfl, hnz⟩ (by rw [bv_zeros]; intro u hu; exact (List.mem_replicate.1 hu).2) (by rw [bv_zeros]; simp) (by omega) (by omega) (fun g21 w21 hg21 hr21 hb21 => ?_))
  have ge_hB_g21 := Nat.le_trans hB.size hg21
  have lt_g2_g21 : g2 < g21 := Nat.lt_of_lt_of_le hr2.lt hg21
  have lt_g3_g21 : g3 < g21 := Nat.lt_of_lt_of_le hr3.lt hg21
  replace hr2 := hr2.new hb21
  replace hr3 := hr3.new hb21
  replace hB := hB.acc hb21
  refine WR_mk rfl (mk_alloc ([Value.slice none 0 0]) (by kernel_rfl) (fun g6 w6 hg6 hr6 hb6 => ?_))
  have ge_hB_g6 := Nat.le_trans hB.size hg6
  have lt_g2_g6 : g2 < g6 := Nat.lt_of_lt_of_le hr2.lt hg6
  have lt_g3_g6 : g3 < g6 := Nat.lt_of_lt_of_le hr3.lt hg6
  have lt_g21_g6 : g21 < g6 := Nat.lt_of_lt_of_le hr21.lt hg6
  replace hr2 := hr2.new hb6
  replace hr3 := hr3.new hb6
  replace hr21 := hr21.new hb6
  replace hB := hB.acc hb6
  refine WR_sk rfl (sk_store1 rfl rfl rfl rfl hr6 (by kernel_rfl) (by first | (simp only [List.length_replicate]; omega) | simp) (fun w901 hr6 ho901 => ?_))
  replace hr2 := hr2.only ho901 (Nat.ne_of_lt lt_g2_g6)
  replace hr3 := hr3.only ho901 (Nat.ne_of_lt lt_g3_g6)
  replace hr21 := hr21.only ho901 (Nat.ne_of_lt lt_g21_g6)
  replace hB := ho901.below hB ge_hB_g6
  refine WR_nil ?_
  refine thenN ?_
  refine W_seq ?_
  refine W_seq ?_
  refine W_region ?_
  refine WR_val rfl (rn_load rfl (Ld.row1 hr3 (by kernel_rfl) rfl)) ?_
  have z21 := hr21.lt
  have z2 := hr2.lt
  have z3 := hr3.lt
  have z6 := hr6.lt
  refine WR_ent rfl (rn_call (by kernel_rfl) rfl) (pieces25 b p n cp w901 (h.below hB (Nat.le_refl _)) (by omega)) ?_
  rintro _ w23 ⟨g3p, g4p, ga, rfl, l3p, l4p, la, b3p, b4p, ba, hb23, hseq⟩
  replace hr2 := hr2.new hb23
  replace hr3 := hr3.new hb23
  replace hr21 := hr21.new hb23
  replace hr6 := hr6.new hb23
  replace hB := hB.acc hb23
  refine WR_nil ?_
  refine thenN ?_
  refine W_block ?_
  have hro := hr21
  have q21 := hr21.lt
  have q2 := hr2.lt
  have q3 := hr3.lt
  have q6 := hr6.lt
  rw [show List.replicate (needN n * 128) (byteV 0) = bv (rowTo c nn b 0) by rw [rowTo, List.take_zero, List.flatten_nil, List.nil_append, bv_zeros, hl]; congr 1; omega] at hro
  refine W_rangeFunc (ps := [24, 25]) (xs := piecesV b) (ks := [g3p, g4p, ga]) (fun _ h => h) rfl (by kernel_rfl) hseq (Below.refl _ _) (by intro v hv; rw [piecesV, List.mem_map] at hv; obtain ⟨i, _, rfl⟩ := hv; rfl) (by kernel_rfl) (by simp)
    (by intro x hx; simp only [List.mem_cons, List.not_mem_nil, or_false] at hx; rcases hx with rfl | rfl | rfl <;> assumption)
    (fun k W => k ≤ manyN n ∧ row W g2 [.int .u64 c, .int .i64 nn] 24 ∧ row W g3 [.slice p n cp] 25 ∧ row W g6 [.slice (some ⟨g21, 0, none⟩) (needN n) (needN n)] 27 ∧ row W g21 (bv (rowTo c nn b k)) 48 ∧ Below w.heap.size w W)
    (fun _ _ => False) (fun k W W' ⟨h1, h2, h3, h4, h5, h6⟩ hs => ⟨h1, h2.soft hs, h3.soft hs, h4.soft hs, h5.soft hs, h6.soft hs hB.size⟩) (fun _ _ _ h _ => h.elim) ⟨Nat.zero_le _, hr2, hr3, hr6, hro, hB⟩ ?_ ?_ (fun _ _ _ _ h _ => h.elim)
  · intro l k v W1 hv hI hsz
    obtain ⟨hk, i2, i3, i6, io, iB⟩ := hI
    have hkb : k < manyN b.length := by
      have := (List.getElem?_eq_some_iff.1 hv).1
      rw [piecesV, List.length_map, List.length_range] at this; exact this
    have hkm : k < manyN n := by rw [← hl]; exact hkb
    obtain rfl : v = pieceV b k := by
      rw [piecesV, List.getElem?_map, List.getElem?_range hkb] at hv; exact (Option.some.inj hv).symm
    have hBa := Below.refl W1.heap.size W1
    have hpl := pieceB_length b k hkb
    have hmn : manyN n ≤ 700 := by unfold manyN; omega
    have hhl : (halfB c nn k (manyN n) (pieceB b k)).length = 64 := by rw [halfB_length, hpl]
    refine W_seq ?_
    refine W_region ?_
    refine WR_val rfl (rn_assign) ?_
    refine WR_nil ?_
    refine thenN ?_
    refine W_region ?_
    refine WR_mk rfl (mk_alloc (List.replicate 48 (byteV 0)) (by kernel_rfl) (fun g8 w8 hg8 hr8 hb8 => ?_))
    have ge_hBa_g8 := Nat.le_trans hBa.size hg8
    replace hBa := hBa.acc hb8
    refine WR_sk rfl (sk_storeA 48 (bv (pieceB b k)) rfl rfl hr8 (by kernel_rfl) (by first | assumption | (simp; done) | (simp [bv_length, *]; done)) (by first | (simp; done) | (simp [bv_length, *]; done) | rfl) (by first | exact bv_one _ | assumption | (simp [Value.oneCell']; done)) (fun w902 hr8 ho902 => ?_))
    replace hBa := ho902.below hBa ge_hBa_g8
    refine WR_nil ?_
    refine ⟨rfl, hBa, fun W2 hs => ?_⟩
    have hr8 := hr8.soft hs
    have j2 := (i2.new hBa).soft hs
    have j3 := (i3.new hBa).soft hs
    have j6 := (i6.new hBa).soft hs
    have jo := (io.new hBa).soft hs
    have jB := (iB.acc hBa).soft hs hB.size
    have hBi := Below.refl W2.heap.size W2
    have hs1 := hs.size
    have hs2 := hBa.size
    have u2 := j2.lt
    have u3 := j3.lt
    have u6 := j6.lt
    have uo := jo.lt
    have v2 := i2.lt
    have v6 := i6.lt
    have v21 := io.lt
    have v3 := i3.lt
    refine W_block ?_
    refine W_seq ?_
    refine W_draw' [] (by kernel_rfl) ?_
    intro w903 hb903 hS903
    replace hr8 := hr8.new hb903
    replace hBi := hBi.acc hb903
    have hr8_d903 := hr8
    have hBi_d903 := hBi
    refine WA_take 0 (by kernel_rfl) rfl (fun w' hS' => rn_load rfl (Ld.rowA (k := 2) (j2.new (hBi_d903.kpd hS' (by first | (simp; done) | (simp; omega)))) (by kernel_rfl) (by kernel_rfl) rfl)) ?_
    refine WA_take 1 (by kernel_rfl) rfl (fun _ _ => rn_move) ?_
    refine WA_take 2 (by kernel_rfl) rfl (fun w' hS' => rn_load rfl (Ld.row1 (j3.new (hBi_d903.kpd hS' (by first | (simp; done) | (simp; omega)))) (by kernel_rfl) rfl)) ?_
    refine WA_take 3 (by kernel_rfl) rfl (fun _ _ => rn_lenSl (e := 5) (sz := 1) (by kernel_rfl) rfl rfl) ?_
    refine WA_call 4 (by kernel_rfl) rfl (fun _ => rn_call (by kernel_rfl) rfl) (fun w' hS' => halves26r n (by omega) w') ?_
    refine WA_take 5 (by kernel_rfl) rfl (fun w' hS' => rn_load rfl (Ld.rowA (k := 48) (hr8_d903.kpd hS' (by first | (simp; done) | (simp; omega))) (by kernel_rfl) (by kernel_rfl) (by rw [bv_length, hpl]))) ?_
    refine WA_take 6 (by kernel_rfl) rfl (fun _ _ => rn_piece hpl rfl rfl rfl rfl) ?_
    refine WA_two 7 8 (by kernel_rfl) ?_ ?_
    ·
      refine WO_ent rfl rfl (rn_call (by kernel_rfl) rfl) (bytes27r c nn k (manyN n) (pieceB b k) hpl (by omega) (by omega) (by omega) (by omega) w903) ?_
      rintro _ w33 ⟨rfl, hb33⟩
      have hS904 := hS903.add0 hb33
      refine ⟨hS904, ?_⟩
      replace hr8 := hr8.new hb33
      replace hBi := hBi.acc hb33
      refine WA_one 8 (by kernel_rfl) ?_
      refine WO_mk rfl rfl (mk_alloc (List.replicate 64 (byteV 0)) (by kernel_rfl) (fun g9 w9 hg9 hr9 hb9 => ?_))
      have hS905 := hS904.add0 hb9
      refine ⟨hS905, ?_⟩
      have ge_hS904_g9 := Nat.le_trans hS904.size hg9
      have ge_hBi_g9 := Nat.le_trans hBi.size hg9
      have lt_g8_g9 : g8 < g9 := Nat.lt_of_lt_of_le hr8.lt hg9
      replace hr8 := hr8.new hb9
      replace hBi := hBi.acc hb9
      refine WA_one 9 (by kernel_rfl) ?_
      refine WO_sk rfl rfl (sk_storeA 64 (bv (halfB c nn k (manyN n) (pieceB b k))) rfl rfl hr9 (by kernel_rfl) (by first | assumption | (simp; done) | (simp [bv_length, *]; done)) (by first | (simp; done) | (simp [bv_length, *]; done) | rfl) (by first | exact bv_one _ | assumption | (simp [Value.oneCell']; done)) (fun w907 hr9 ho907 => ?_))
      have hS906 := hS905.add1 ho907 (by first | (left; omega) | (right; simp; done) | (right; simp; omega))
      refine ⟨hS906, ?_⟩
      replace hr8 := hr8.only ho907 (Nat.ne_of_lt lt_g8_g9)
      replace hBi := ho907.below hBi ge_hBi_g9
      refine WA_done (by kernel_rfl) ?_
      refine thenN ?_
      have jo := jo.new hBi
      have j6 := j6.new hBi
      have hBd := hBi
      have n69 : g6 ≠ g9 := by omega
      refine W_draw' [g21] (by kernel_rfl) ?_
      intro w908 hb908 hS908
      replace hr8 := hr8.new hb908
      replace hr9 := hr9.new hb908
      replace jo := jo.new hb908
      replace j6 := j6.new hb908
      replace hBd := hBd.acc hb908
      have hr8_d908 := hr8
      have hr9_d908 := hr9
      have jo_d908 := jo
      have j6_d908 := j6
      have hBd_d908 := hBd
      refine WA_take 0 (by kernel_rfl) rfl (fun w' hS' => rn_load rfl (Ld.row1 (j6_d908.kpd hS' (by first | (simp; done) | (simp; omega))) (by kernel_rfl) rfl)) ?_
      refine WA_take 1 (by kernel_rfl) rfl (fun _ _ => rn_move) ?_
      refine WA_take 2 (by kernel_rfl) rfl (fun _ _ => rn_quo0 rfl rfl (by omega) (by omega)) ?_
      refine WA_take 3 (by kernel_rfl) rfl (fun _ _ => rn_indexSl (e := 48) (sz := 128) (by kernel_rfl) rfl rfl (k / 2) (by omega) (by omega)) ?_
      refine WA_take 4 (by kernel_rfl) rfl (fun _ _ => rn_move) ?_
      refine WA_take 5 (by kernel_rfl) rfl (fun _ _ => rn_rem0 rfl rfl (by omega) (by omega)) ?_
      refine WA_take 6 (by kernel_rfl) rfl (fun _ _ => rn_mul rfl rfl (w64 (by omega))) ?_
      refine WA_take 7 (by kernel_rfl) rfl (fun _ _ => rn_sliceAr1' (e := 5) (k % 2 * 64) (128) (128) (_) (by kernel_rfl) rfl ⟨_, _, rfl, by omega⟩ rfl rfl (by simp) (by omega) (by omega) (by omega) (by omega) rfl) ?_
      refine WA_take 8 (by kernel_rfl) rfl (fun _ _ => rn_sliceAr1' (e := 5) (0) (64) (64) (64) (by kernel_rfl) rfl rfl rfl rfl (by simp) (by omega) (by omega) (by omega) (by omega) (by omega)) ?_
      refine WA_one 9 (by kernel_rfl) ?_
      have hBe := hBd
      refine WO_mk rfl rfl (mk_copy (e := 5) (by kernel_rfl) (by kernel_rfl) rfl rfl g21 ((0 + k / 2 * 128 + k % 2 * 64)) jo (bv (halfB c nn k (manyN n) (pieceB b k))) (by rw [bv_length, halfB_length, hpl]; simp [Nat.min_def]; omega) (fun _ => ⟨rfl, _, rfl, fun j v hv => by rw [Addr.add_lit, Nat.zero_add]; exact hr9.cell j hv⟩) (by rw [bv_length, halfB_length, hpl, bv_length, rowTo_len c nn b k (by omega), hl]; unfold needN; omega) (bv_one _) (fun w43 jo ho43 => ?_))
      have hS909 := hS908.add1 ho43 (by first | (left; omega) | (right; simp; done) | (right; simp; omega))
      refine ⟨hS909, ?_⟩
      replace hr8 := hr8.only ho43 (by omega)
      replace hr9 := hr9.only ho43 (by omega)
      replace j6 := j6.only ho43 (Nat.ne_of_gt lt_g21_g6)
      refine WA_done (by kernel_rfl) ?_
      refine blockN ?_
      have hkp : Kp [g21] W2 w43 := (Kp.of_below hBe).add (N := [g21]) (Kp.of_only ho43) (by simp)
      rw [show 0 + k / 2 * 128 + k % 2 * 64 = 64 * k by omega, ← hl, rowTo_step c nn b k hkb] at jo
      exact ⟨keepsFrom_of_kp hkp (by simp; left; omega), fun x hx => hkp.block x (by simp at hx; rcases hx with rfl | rfl | rfl <;> omega) (by simp at hx ⊢; rcases hx with rfl | rfl | rfl <;> omega), by omega, j2.kp hkp (by simp; omega), j3.kp hkp (by simp; omega), j6, jo, jB.kpd hkp (by simp; omega)⟩
    ·
      refine WO_mk rfl rfl (mk_alloc (List.replicate 64 (byteV 0)) (by kernel_rfl) (fun g9 w9 hg9 hr9 hb9 => ?_))
      have hS910 := hS903.add0 hb9
      refine ⟨hS910, ?_⟩
      have ge_hS903_g9 := Nat.le_trans hS903.size hg9
      have ge_hBi_g9 := Nat.le_trans hBi.size hg9
      have lt_g8_g9 : g8 < g9 := Nat.lt_of_lt_of_le hr8.lt hg9
      replace hr8 := hr8.new hb9
      replace hBi := hBi.acc hb9
      refine WA_one 7 (by kernel_rfl) ?_
      refine WO_ent rfl rfl (rn_call (by kernel_rfl) rfl) (bytes27r c nn k (manyN n) (pieceB b k) hpl (by omega) (by omega) (by omega) (by omega) w9) ?_
      rintro _ w33 ⟨rfl, hb33⟩
      have hS911 := hS910.add0 hb33
      refine ⟨hS911, ?_⟩
      replace hr8 := hr8.new hb33
      replace hr9 := hr9.new hb33
      replace hBi := hBi.acc hb33
      refine WA_one 9 (by kernel_rfl) ?_
      refine WO_sk rfl rfl (sk_storeA 64 (bv (halfB c nn k (manyN n) (pieceB b k))) rfl rfl hr9 (by kernel_rfl) (by first | assumption | (simp; done) | (simp [bv_length, *]; done)) (by first | (simp; done) | (simp [bv_length, *]; done) | rfl) (by first | exact bv_one _ | assumption | (simp [Value.oneCell']; done)) (fun w913 hr9 ho913 => ?_))
      have hS912 := hS911.add1 ho913 (by first | (left; omega) | (right; simp; done) | (right; simp; omega))
      refine ⟨hS912, ?_⟩
      replace hr8 := hr8.only ho913 (Nat.ne_of_lt lt_g8_g9)
      replace hBi := ho913.below hBi ge_hBi_g9
      refine WA_done (by kernel_rfl) ?_
      refine thenN ?_
      have jo := jo.new hBi
      have j6 := j6.new hBi
      have hBd := hBi
      have n69 : g6 ≠ g9 := by omega
      refine W_draw' [g21] (by kernel_rfl) ?_
      intro w914 hb914 hS914
      replace hr8 := hr8.new hb914
      replace hr9 := hr9.new hb914
      replace jo := jo.new hb914
      replace j6 := j6.new hb914
      replace hBd := hBd.acc hb914
      have hr8_d914 := hr8
      have hr9_d914 := hr9
      have jo_d914 := jo
      have j6_d914 := j6
      have hBd_d914 := hBd
      refine WA_take 0 (by kernel_rfl) rfl (fun w' hS' => rn_load rfl (Ld.row1 (j6_d914.kpd hS' (by first | (simp; done) | (simp; omega))) (by kernel_rfl) rfl)) ?_
      refine WA_take 1 (by kernel_rfl) rfl (fun _ _ => rn_move) ?_
      refine WA_take 2 (by kernel_rfl) rfl (fun _ _ => rn_quo0 rfl rfl (by omega) (by omega)) ?_
      refine WA_take 3 (by kernel_rfl) rfl (fun _ _ => rn_indexSl (e := 48) (sz := 128) (by kernel_rfl) rfl rfl (k / 2) (by omega) (by omega)) ?_
      refine WA_take 4 (by kernel_rfl) rfl (fun _ _ => rn_move) ?_
      refine WA_take 5 (by kernel_rfl) rfl (fun _ _ => rn_rem0 rfl rfl (by omega) (by omega)) ?_
      refine WA_take 6 (by kernel_rfl) rfl (fun _ _ => rn_mul rfl rfl (w64 (by omega))) ?_
      refine WA_take 7 (by kernel_rfl) rfl (fun _ _ => rn_sliceAr1' (e := 5) (k % 2 * 64) (128) (128) (_) (by kernel_rfl) rfl ⟨_, _, rfl, by omega⟩ rfl rfl (by simp) (by omega) (by omega) (by omega) (by omega) rfl) ?_
      refine WA_take 8 (by kernel_rfl) rfl (fun _ _ => rn_sliceAr1' (e := 5) (0) (64) (64) (64) (by kernel_rfl) rfl rfl rfl rfl (by simp) (by omega) (by omega) (by omega) (by omega) (by omega)) ?_
      refine WA_one 9 (by kernel_rfl) ?_
      have hBe := hBd
      refine WO_mk rfl rfl (mk_copy (e := 5) (by kernel_rfl) (by kernel_rfl) rfl rfl g21 ((0 + k / 2 * 128 + k % 2 * 64)) jo (bv (halfB c nn k (manyN n) (pieceB b k))) (by rw [bv_length, halfB_length, hpl]; simp [Nat.min_def]; omega) (fun _ => ⟨rfl, _, rfl, fun j v hv => by rw [Addr.add_lit, Nat.zero_add]; exact hr9.cell j hv⟩) (by rw [bv_length, halfB_length, hpl, bv_length, rowTo_len c nn b k (by omega), hl]; unfold needN; omega) (bv_one _) (fun w43 jo ho43 => ?_))
      have hS915 := hS914.add1 ho43 (by first | (left; omega) | (right; simp; done) | (right; simp; omega))
      refine ⟨hS915, ?_⟩
      replace hr8 := hr8.only ho43 (by omega)
      replace hr9 := hr9.only ho43 (by omega)
      replace j6 := j6.only ho43 (Nat.ne_of_gt lt_g21_g6)
      refine WA_done (by kernel_rfl) ?_
      refine blockN ?_
      have hkp : Kp [g21] W2 w43 := (Kp.of_below hBe).add (N := [g21]) (Kp.of_only ho43) (by simp)
      rw [show 0 + k / 2 * 128 + k % 2 * 64 = 64 * k by omega, ← hl, rowTo_step c nn b k hkb] at jo
      exact ⟨keepsFrom_of_kp hkp (by simp; left; omega), fun x hx => hkp.block x (by simp at hx; rcases hx with rfl | rfl | rfl <;> omega) (by simp at hx ⊢; rcases hx with rfl | rfl | rfl <;> omega), by omega, j2.kp hkp (by simp; omega), j3.kp hkp (by simp; omega), j6, jo, jB.kpd hkp (by simp; omega)⟩
  · intro D W hD hI hdef
    obtain ⟨hk, i2, i3, i6, io, iB⟩ := hI
    have hxl : (piecesV b).length = manyN b.length := by rw [piecesV, List.length_map, List.length_range]
    rw [hxl, show rowTo c nn b (manyN b.length) = rowB c nn b by rw [rowTo, rowB, List.take_of_length_le (by simp [halvesL])]] at io
    refine blockN ?_
    refine thenN ?_
    refine W_seq ?_
    refine W_region ?_
    refine WR_val rfl (rn_load rfl (Ld.row1 i6 (by kernel_rfl) rfl)) ?_
    refine WR_val rfl (rn_assign) ?_
    refine WR_val rfl (rn_assign) ?_
    refine WR_nil ?_
    refine thenN ?_
    refine W_ret ?_
    refine ret_mark [_, _] D hdef ⟨rfl, rfl, trivial⟩ ?_
    have hs := Soft.put (B := w.heap.size) (.deferred none) hdef (by have := hB.size; omega) rfl
    exact ⟨g21, rfl, by omega, io.soft hs, iB.soft hs (Nat.le_refl _)⟩
end Go.Proofs.Ytnlocpldghpfcaa
