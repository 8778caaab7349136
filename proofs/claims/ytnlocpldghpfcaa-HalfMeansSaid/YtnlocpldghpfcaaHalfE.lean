/- A row's pieces, handed over one by one. -/
import Derived.Test.YtnlocpldghpfcaaHalfD
namespace Go.Proofs.Ytnlocpldghpfcaa
open Go Go.RowKit Coup

theorem halves26r (n : Nat) (hn : n ≤ 1000000) (w : World) : Calls Try.prog 26 [.int .i64 n].toArray w (Ret fun v w' => v = .int .i64 (manyN n) ∧ w = w') := calls_ret (halves26 n hn w)
/-- What a round is handed. -/
def pieceV (b : List UInt8) (i : Nat) : List Value := [.int .i64 i, .agg (bv (pieceB b i)).toArray]
def piecesV (b : List UInt8) : List (List Value) := (List.range (manyN b.length)).map (pieceV b)
theorem piece_splice (b : List UInt8) (i : Nat) (hi : i < manyN b.length) : splice (List.replicate 48 (byteV 0)) 0 (bv (((beB 4 b.length ++ b).drop (48 * i)).take 48)) = bv (pieceB b i) := by
  have h1 := allB_length b
  have h2 := manyN_le b.length
  have hal : allB b = (beB 4 b.length ++ b) ++ zerosB (48 * manyN b.length - (4 + b.length)) := by simp [allB]
  obtain ⟨A, hA⟩ : ∃ A, A = beB 4 b.length ++ b := ⟨_, rfl⟩
  have hl : A.length = 4 + b.length := by rw [hA]; simp [beB_length]
  rw [pieceB, hal, ← hA]
  have hz : List.replicate 48 (byteV 0) = bv (zerosB 48) := (bv_zeros 48).symm
  rw [hz, List.drop_append, List.take_append]
  have h3 : ((A.drop (48 * i)).take 48).length = min 48 (A.length - 48 * i) := by simp
  rw [splice, List.take_zero, List.nil_append, Nat.zero_add, bv_length, h3, bv_append, ← bv_drop]
  congr 2
  simp only [zerosB, List.drop_replicate, List.take_replicate, List.length_drop]
  congr 1
  have : manyN b.length ≤ (b.length + 51) / 48 := Nat.le_refl _
  omega
theorem bytes4 (n : Nat) : [Value.int .u8 (IntKind.u8.wrap ((n : Int).fdiv (2 ^ 24))), .int .u8 (IntKind.u8.wrap ((n : Int).fdiv (2 ^ 16))), .int .u8 (IntKind.u8.wrap ((n : Int).fdiv (2 ^ 8))), .int .u8 (IntKind.u8.wrap (n : Int))] = bv (beB 4 n) := by
  simp only [beB, bv, List.map_append, List.map_cons, List.map_nil, List.nil_append, List.cons_append, byteV, Int.fdiv_eq_ediv_of_nonneg _ (by omega : (0 : Int) ≤ 2 ^ 24), Int.fdiv_eq_ediv_of_nonneg _ (by omega : (0 : Int) ≤ 2 ^ 16), Int.fdiv_eq_ediv_of_nonneg _ (by omega : (0 : Int) ≤ 2 ^ 8), IntKind.wrap_u8]
  simp
  omega

set_option maxHeartbeats 1000000 in
theorem piecesSeq (b : List UInt8) (g3 g4 ga oa n c : Nat) (w : World) (hl : b.length = n) (hn : n ≤ 40000) (r3 : row w g3 [.int .i64 n] 3) (r4 : row w g4 [.slice (some ⟨ga, oa, none⟩) (4 + n) c] 25)
    (hs : SlAt w (some ⟨ga, oa, none⟩) (4 + n) 1 (bv (beB 4 n ++ b))) (hcap : 4 + n ≤ c) : SeqT Try.prog 37 [.pointer (some ⟨g3, 0, none⟩), .pointer (some ⟨g4, 0, none⟩)] (piecesV b) [g3, g4, ga] w := by
  intro l J Jx W hbW hJ hJx hy h0
  have r3W := r3.new hbW
  have r4W := r4.new hbW
  have hsW := hs.new hbW
  have hgaW := hsW.some (by omega)
  obtain ⟨_, _, heq, hgaW⟩ := hgaW
  cases heq
  have hB := Below.refl W.heap.size W
  refine calls_W (fn := Try.f37) (rs := []) (n := 23) Try.func37 rfl rfl Try.ntmps37 (by kernel_rfl) rfl ?_
  refine W_seq ?_
  refine W_region ?_
  refine WR_val rfl (rn_load rfl (Ld.row1 r3W (by kernel_rfl) rfl)) ?_
  refine WR_ent rfl (rn_call (by kernel_rfl) rfl) (halves26r n (by omega) W) ?_
  rintro _ _ ⟨rfl, rfl⟩
  refine WR_val rfl (rn_move) ?_
  refine WR_nil ?_
  refine thenN ?_
  refine W_block ?_
  refine W_loop (0 : Nat) (fun k => [(0, .func (.yield l) #[] #[]), (1, .pointer (some ⟨g3, 0, none⟩)), (2, .pointer (some ⟨g4, 0, none⟩)), (7, .int .i64 (manyN n : Nat)), (8, .int .i64 (k : Nat))])
    (fun k w' => k ≤ manyN n ∧ J k w' ∧ (∀ x, x ∈ [g3, g4, ga] → w'.heap[x]? = W.heap[x]?) ∧ W.heap.size ≤ w'.heap.size) (fun k => manyN n - k) ⟨rfl, rfl, rfl, rfl, rfl, rfl⟩ ⟨Nat.zero_le _, h0, fun _ _ => rfl, Nat.le_refl _⟩ ?_
  rintro k f wr ⟨hk, hJk, hkp, hsz⟩
  have hBr := Below.refl wr.heap.size wr
  have r4r : row wr g4 [.slice (some ⟨ga, oa, none⟩) (4 + n) c] 25 := (hkp g4 (by simp)).trans r4W
  have hsr := hsW.blk (hkp ga (by simp)) hsz
  have hm2 : 48 * manyN n ≤ n + 51 := by unfold manyN; omega
  refine W_seq ?_
  refine W_region ?_
  refine WR_val rfl (rn_lss rfl rfl) ?_
  refine WR_nil ?_
  refine thenN ?_
  refine W_seq ?_
  refine W_ifp rfl (fun hlt => ?_) (fun hlt => ?_)
  ·
    refine W_skip ?_
    refine thenN ?_
    refine W_seq ?_
    refine W_block ?_
    refine W_seq ?_
    refine W_region ?_
    refine WR_val rfl (rn_move) ?_
    refine WR_val rfl (rn_assign) ?_
    refine WR_nil ?_
    refine thenN ?_
    refine W_seq ?_
    refine W_region ?_
    refine WR_mk rfl (mk_alloc (List.replicate 48 (byteV 0)) (by kernel_rfl) (fun g5 w5 hg5 hr5 hb5 => ?_))
    have ge_hBr_g5 := Nat.le_trans hBr.size hg5
    replace hBr := hBr.acc hb5
    refine WR_nil ?_
    refine thenN ?_
    refine W_seq ?_
    refine W_draw' [g5] (by kernel_rfl) ?_
    intro w901 hb901 hS901
    replace hr5 := hr5.new hb901
    replace hBr := hBr.acc hb901
    have hr5_d901 := hr5
    have hBr_d901 := hBr
    refine WA_take 0 (by kernel_rfl) rfl (fun _ _ => rn_sliceAr1' (e := 5) (0) (48) (48) (48) (by kernel_rfl) rfl rfl rfl rfl (by simp) (by omega) (by omega) (by omega) (by omega) (by omega)) ?_
    refine WA_take 1 (by kernel_rfl) rfl (fun w' hS' => rn_load rfl (Ld.row1 (r4r.new (hBr_d901.kpd hS' (by first | (simp; done) | (simp; omega)))) (by kernel_rfl) rfl)) ?_
    refine WA_take 2 (by kernel_rfl) rfl (fun _ _ => rn_move) ?_
    refine WA_take 3 (by kernel_rfl) rfl (fun _ _ => rn_mul rfl rfl (w64 (by omega))) ?_
    refine WA_take 4 (by kernel_rfl) rfl (fun _ _ => rn_sliceSl1' (e := 5) (48 * k) (_) (_) (_) (by kernel_rfl) rfl ⟨_, _, rfl, by omega⟩ rfl rfl (by simp) (by omega) (by omega) (by omega) (by omega) rfl) ?_
    refine WA_one 5 (by kernel_rfl) ?_
    have hcl : (bv (((beB 4 n ++ b).drop (48 * k)).take 48)).length = Nat.min (4 + n - 48 * k) 48 := by rw [bv_length, List.length_take, List.length_drop, List.length_append, beB_length, hl, Nat.min_comm]
    have hkb : k < manyN b.length := by rw [hl]; omega
    refine WO_mk rfl rfl (mk_copy (e := 5) (by kernel_rfl) (by kernel_rfl) rfl rfl g5 (0) hr5 (bv (((beB 4 n ++ b).drop (48 * k)).take 48)) hcl (fun _ => ⟨rfl, _, rfl, (hsr.new hBr).src (48 * k) 48⟩) (by rw [bv_length, List.length_take, List.length_replicate]; omega) (bv_one _) (fun w16 hr5 ho16 => ?_))
    have hS902 := hS901.add1 ho16 (by first | (left; omega) | (right; simp; done) | (right; simp; omega))
    refine ⟨hS902, ?_⟩
    replace hBr := ho16.below hBr ge_hBr_g5
    have hps := piece_splice b k hkb
    rw [hl] at hps
    rw [hps] at hr5
    refine WA_done (by kernel_rfl) ?_
    refine thenN ?_
    refine W_seq ?_
    refine W_region ?_
    refine WR_val rfl (rn_move) ?_
    refine WR_val rfl (rn_move) ?_
    refine WR_val rfl (rn_load rfl (Ld.rowA hr5 (by kernel_rfl) (by kernel_rfl) (by rw [bv_length, pieceB_length b k hkb]))) ?_
    have hv : (piecesV b)[k]? = some (pieceV b k) := by
      rw [piecesV, List.getElem?_map, List.getElem?_range hkb]; rfl
    have hYk := hy k (pieceV b k) w16 hv (hJ _ _ _ hJk hBr)
    refine WR_yield (vl := pieceV b k) rfl rfl hYk ?_
    rintro e wy (⟨rfl, hJy, hky, hsy⟩ | ⟨rfl, hJxy⟩)
    · refine ⟨_, rfl, ?_⟩
      refine WR_val rfl (rn_not rfl) ?_
      refine WR_nil ?_
      refine thenN ?_
      refine W_f rfl ?_
      refine W_skip ?_
      refine blockN ?_
      refine thenN ?_
      refine W_region ?_
      refine WR_val rfl (rn_add rfl rfl (Coup.w64 (by omega))) ?_
      refine WR_val rfl (rn_move) ?_
      refine WR_nil ?_
      refine loopN ⟨k + 1, by omega, ⟨rfl, rfl, rfl, rfl, by go_num, rfl⟩, by omega, hJy, fun x hx => ?_, by have := hBr.size; omega⟩
      have hxx : x < wr.heap.size := by
        have h1 := r4r.lt
        simp only [List.mem_cons, List.not_mem_nil, or_false] at hx
        rcases hx with rfl | rfl | rfl
        · exact Nat.lt_of_lt_of_le r3W.lt hsz
        · exact h1
        · omega
      rw [hky x hx, hBr.block x hxx, hkp x hx]
    · refine ⟨_, rfl, ?_⟩
      refine WR_val rfl (rn_not rfl) ?_
      refine WR_nil ?_
      refine thenN ?_
      refine W_t rfl ?_
      refine W_ret ?_
      refine blockR ?_
      refine thenR ?_
      refine loopR ?_
      refine blockR ?_
      refine ret_ret [] trivial ?_
      exact Or.inr hJxy
  ·
    refine W_exit ?_
    refine thenX ?_
    refine loopX ?_
    refine blockX ?_
    refine ret_normal [] trivial ?_
    obtain rfl : k = manyN n := by omega
    refine Or.inl ?_
    rw [piecesV, List.length_map, List.length_range, hl]
    exact hJk

theorem pieces25 (b : List UInt8) (p : Option Addr) (n cp : Nat) (w : World) (h : SlAt w p n 1 (bv b)) (hn : n ≤ 40000) :
    Calls Try.prog 25 [.slice p n cp].toArray w (Ret fun v w' => ∃ g3 g4 ga, v = .func (.func 37) #[] [.pointer (some ⟨g3, 0, none⟩), .pointer (some ⟨g4, 0, none⟩)].toArray ∧ g3 < w'.heap.size ∧ g4 < w'.heap.size ∧ ga < w'.heap.size ∧ w.heap.size ≤ g3 ∧ w.heap.size ≤ g4 ∧ w.heap.size ≤ ga ∧
      Below w.heap.size w w' ∧ SeqT Try.prog 37 [.pointer (some ⟨g3, 0, none⟩), .pointer (some ⟨g4, 0, none⟩)] (piecesV b) [g3, g4, ga] w') := by
  have hl : b.length = n := by simpa [bv_length] using h.len
  have hB := Below.refl w.heap.size w
  refine calls_W (fn := Try.f25) (rs := [.tmp 2]) (n := 22) Try.func25 rfl rfl Try.ntmps25 (by kernel_rfl) rfl ?_
  refine W_seq ?_
  refine W_region ?_
  refine WR_val rfl (rn_assign) ?_
  refine WR_nil ?_
  refine thenN ?_
  refine W_seq ?_
  refine W_region ?_
  refine WR_val rfl (rn_move) ?_
  refine WR_val rfl (rn_lenSl (e := 5) (sz := 1) (by kernel_rfl) rfl rfl) ?_
  refine WR_mk rfl (mk_alloc ([Value.int .i64 0]) (by kernel_rfl) (fun g3 w3 hg3 hr3 hb3 => ?_))
  have ge_hB_g3 := Nat.le_trans hB.size hg3
  replace hB := hB.acc hb3
  refine WR_sk rfl (sk_store1 rfl rfl rfl rfl hr3 (by kernel_rfl) (by first | (simp only [List.length_replicate]; omega) | simp) (fun w901 hr3 ho901 => ?_))
  replace hB := ho901.below hB ge_hB_g3
  refine WR_nil ?_
  refine thenN ?_
  refine W_seq ?_
  refine W_region ?_
  refine WR_val rfl (rn_load rfl (Ld.row1 hr3 (by kernel_rfl) rfl)) ?_
  refine WR_val rfl (rn_shr rfl rfl (by omega) rfl) ?_
  refine WR_val rfl (rn_conv (k := .u8) (by kernel_rfl) (by kernel_rfl) rfl rfl) ?_
  refine WR_val rfl (rn_load rfl (Ld.row1 hr3 (by kernel_rfl) rfl)) ?_
  refine WR_val rfl (rn_shr rfl rfl (by omega) rfl) ?_
  refine WR_val rfl (rn_conv (k := .u8) (by kernel_rfl) (by kernel_rfl) rfl rfl) ?_
  refine WR_val rfl (rn_load rfl (Ld.row1 hr3 (by kernel_rfl) rfl)) ?_
  refine WR_val rfl (rn_shr rfl rfl (by omega) rfl) ?_
  refine WR_val rfl (rn_conv (k := .u8) (by kernel_rfl) (by kernel_rfl) rfl rfl) ?_
  refine WR_val rfl (rn_load rfl (Ld.row1 hr3 (by kernel_rfl) rfl)) ?_
  refine WR_val rfl (rn_conv (k := .u8) (by kernel_rfl) (by kernel_rfl) rfl rfl) ?_
  refine WR_mk rfl (mk_buildSlice (e := 5) [(0, .int .u8 (IntKind.u8.wrap ((n : Int).fdiv (2 ^ 24)))), (1, .int .u8 (IntKind.u8.wrap ((n : Int).fdiv (2 ^ 16)))), (2, .int .u8 (IntKind.u8.wrap ((n : Int).fdiv (2 ^ 8)))), (3, .int .u8 (IntKind.u8.wrap (n : Int)))] [.int .u8 0] 1 (by kernel_rfl) (by kernel_rfl) rfl (by omega) (by omega) (by intro i hi; rcases i with _ | _ | _ | _ | i <;> first | (simp [Value.cells]; done) | (exfalso; simp only [List.length_cons, List.length_nil] at hi; omega)) (by simp [Value.cells]) (fun g18 w18 hg18 hr18 hb18 => ?_))
  have ge_hB_g18 := Nat.le_trans hB.size hg18
  have lt_g3_g18 : g3 < g18 := Nat.lt_of_lt_of_le hr3.lt hg18
  replace hr3 := hr3.new hb18
  replace hB := hB.acc hb18
  replace hr18 : row w18 g18 (bv (beB 4 n)) 5 := by rw [← bytes4 n]; exact hr18
  refine WR_val rfl (rn_move) ?_
  have hv18 := hr18.owns (base := g18) (m := 4) (sz := 1) (Nat.le_refl _) (lenV 4 n) (by unfold maxLen; omega)
  have sz_hB_20 := hB.size
  refine WR_mk rfl (mk_append (e := 5) (sz := 1) (bytes := 1) (z := Value.int .u8 0) (by kernel_rfl) rfl (by kernel_rfl) rfl (by decide) rfl hv18 rfl (h.below hB (Nat.le_refl _)) (bv_one _) (by unfold maxLen; omega) (by omega) (fun hm0 => by omega) (fun v20 w20 hv20 hgr20 hfr20 => ?_))
  replace hr3 := hr3.own hv18 hgr20 (by omega)
  replace hB := hB.own hv18 hgr20 (by omega)
  have hobt := hv20.form' (by omega)
  obtain ⟨ga, oa, ca, rfl, hga1, hga2, hca⟩ := hobt
  have hs20 := hv20.sl
  rw [← bv_append] at hs20
  refine WR_mk rfl (mk_alloc ([Value.slice none 0 0]) (by kernel_rfl) (fun g4 w4 hg4 hr4 hb4 => ?_))
  have ge_hB_g4 := Nat.le_trans hB.size hg4
  have lt_g3_g4 : g3 < g4 := Nat.lt_of_lt_of_le hr3.lt hg4
  replace hr3 := hr3.new hb4
  replace hs20 := hs20.new hb4
  replace hB := hB.acc hb4
  refine WR_sk rfl (sk_store1 rfl rfl rfl rfl hr4 (by kernel_rfl) (by first | (simp only [List.length_replicate]; omega) | simp) (fun w902 hr4 ho902 => ?_))
  replace hr3 := hr3.only ho902 (Nat.ne_of_lt lt_g3_g4)
  replace hs20 := hs20.only ho902 (by omega)
  replace hB := ho902.below hB ge_hB_g4
  refine WR_nil ?_
  refine thenN ?_
  refine W_seq ?_
  refine W_region ?_
  refine WR_val rfl (rn_makeFunc) ?_
  refine WR_val rfl (rn_assign) ?_
  refine WR_nil ?_
  refine thenN ?_
  refine W_ret ?_
  refine ret_ret [_] ⟨rfl, trivial⟩ ?_
  refine ⟨g3, g4, ga, rfl, hr3.lt, hr4.lt, ?_, by omega, by omega, by omega, hB, ?_⟩
  · obtain ⟨_, _, he, h1⟩ := hs20.some (by omega); cases he; exact h1
  · exact piecesSeq b g3 g4 ga oa n ca _ hl hn hr3 hr4 hs20 hca
end Go.Proofs.Ytnlocpldghpfcaa
