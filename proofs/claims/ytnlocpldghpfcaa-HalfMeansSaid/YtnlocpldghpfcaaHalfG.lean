/- Halves, two by two: the reference's sectors; rows of the reference. -/
import Derived.Test.YtnlocpldghpfcaaHalfF
namespace Go.Proofs.Ytnlocpldghpfcaa
open Go Go.RowKit Coup

def secs : List (List UInt8) → List UInt8
  | [] => []
  | [a] => a ++ zerosB 64
  | a :: b :: r => (a ++ b) ++ secs r
theorem secs_step : ∀ (k : Nat) (L : List (List UInt8)), 2 * k < L.length → secs (L.take (2 * (k + 1))) = secs (L.take (2 * k)) ++ (L.getD (2 * k) [] ++ L.getD (2 * k + 1) (zerosB 64))
  | 0, [], h => by simp at h
  | 0, [a], _ => by simp [secs]
  | 0, a :: b :: r, _ => by simp [secs]
  | k + 1, [], h => by simp at h
  | k + 1, [a], h => by simp at h
  | k + 1, a :: b :: r, h => by
    have ih := secs_step k r (by simp at h; omega)
    have e1 : (a :: b :: r).take (2 * (k + 1 + 1)) = a :: b :: r.take (2 * (k + 1)) := by rw [show 2 * (k + 1 + 1) = 2 * (k + 1) + 1 + 1 by omega]; rfl
    have e2 : (a :: b :: r).take (2 * (k + 1)) = a :: b :: r.take (2 * k) := by rw [show 2 * (k + 1) = 2 * k + 1 + 1 by omega]; rfl
    have e3 : (a :: b :: r).getD (2 * (k + 1)) [] = r.getD (2 * k) [] := by rw [show 2 * (k + 1) = 2 * k + 1 + 1 by omega]; rfl
    have e4 : (a :: b :: r).getD (2 * (k + 1) + 1) (zerosB 64) = r.getD (2 * k + 1) (zerosB 64) := by rw [show 2 * (k + 1) + 1 = 2 * k + 1 + 1 + 1 by omega]; rfl
    rw [e1, e2, e3, e4, secs, secs, ih]
    simp only [List.append_assoc]
theorem secs_flat : ∀ (L : List (List UInt8)), (∀ l, l ∈ L → l.length = 64) → secs L = L.flatten ++ zerosB (128 * ((L.length + 1) / 2) - 64 * L.length)
  | [], _ => rfl
  | [a], _ => by simp [secs]
  | a :: b :: r, h => by
    have ih := secs_flat r fun l hl => h l (by simp [hl])
    rw [secs, ih, List.flatten_cons, List.flatten_cons, List.length_cons, List.length_cons]
    rw [show 128 * ((r.length + 1 + 1 + 1) / 2) - 64 * (r.length + 1 + 1) = 128 * ((r.length + 1) / 2) - 64 * r.length by omega]
    simp only [List.append_assoc]
theorem flat64 : ∀ (L : List (List UInt8)), (∀ l, l ∈ L → l.length = 64) → L.flatten.length = 64 * L.length
  | [], _ => rfl
  | a :: L, h => by rw [List.flatten_cons, List.length_append, flat64 L (fun l hl => h l (by simp [hl])), h a (by simp), List.length_cons]; omega
theorem secs_len (L : List (List UInt8)) (h : ∀ l, l ∈ L → l.length = 64) : (secs L).length = 128 * ((L.length + 1) / 2) := by
  rw [secs_flat L h, List.length_append]
  rw [flat64 L h, zerosB, List.length_replicate]
  omega
theorem halvesL_len (c n : Nat) (b : List UInt8) : (halvesL c n b).length = manyN b.length := by simp [halvesL]
theorem halvesL_64 (c n : Nat) (b : List UInt8) : ∀ l, l ∈ halvesL c n b → l.length = 64 := by
  intro l hl
  obtain ⟨i, hi⟩ := List.mem_iff_getElem?.1 hl
  have hi' : i < manyN b.length := by
    have := (List.getElem?_eq_some_iff.1 hi).1
    rwa [halvesL_len] at this
  rw [halvesL_get c n b i hi'] at hi
  cases hi
  rw [halfB_length, pieceB_length b i hi']
theorem rowB_secs (c n : Nat) (b : List UInt8) : rowB c n b = secs (halvesL c n b) := by
  rw [secs_flat _ (halvesL_64 c n b), halvesL_len, rowB, needN]
theorem _root_.Coup.SlsAt.get {w : World} {lo : Nat} {o : Option Nat} {vs : List Value} {L : List (List UInt8)} (h : SlsAt w lo o vs L) (i : Nat) {l : List UInt8} (hl : L[i]? = some l) : ∃ b off c, vs[i]? = some (.slice (some ⟨b, off, none⟩) l.length c) ∧ SlAt w (some ⟨b, off, none⟩) l.length 1 (bv l) ∧ b < w.heap.size ∧ l.length ≤ c := by
  obtain ⟨b, off, c, h1, h2, h3, _, h5, _⟩ := h.at_ i l hl
  exact ⟨b, off, c, h1, h2, h3, h5⟩
theorem splice_first (a : List UInt8) (ha : a.length = 64) : splice (List.replicate 128 (byteV 0)) 0 (bv a) = bv (a ++ zerosB 64) := by
  rw [splice, List.take_zero, List.nil_append, bv_append, bv_length, ha, bv_zeros, List.drop_replicate]
theorem splice_second (a b : List UInt8) (ha : a.length = 64) (hb : b.length = 64) : splice (bv (a ++ zerosB 64)) 64 (bv b) = bv (a ++ b) := by
  have h1 := splice_head (bv a) (bv (zerosB 64)) (bv b) [] (by rw [bv_length, bv_length, hb, zerosB, List.length_replicate])
  rw [bv_length, ha, List.append_nil, List.append_nil] at h1
  rw [bv_append, bv_append, h1]

set_option maxHeartbeats 1000000 in
theorem sectors29 (L : List (List UInt8)) (hL : ∀ l, l ∈ L → l.length = 64) {lo : Nat} (o : Option Nat) (vs : List Value) (p : Option Addr) (m cp : Nat) (w : World) (h : SlAt w p m 1 vs) (hs : SlsAt w lo o vs L) (hm : L.length = m) (hmax : m ≤ 100000) :
    Calls Try.prog 29 [.slice p m cp].toArray w (Ret fun v w' => ownsAt w' w.heap.size 48 128 v ((m + 1) / 2) (bv (secs L)) ∧ Below w.heap.size w w') := by
  have hB := Below.refl w.heap.size w
  have hvl : vs.length = m := by rw [hs.len, hm]
  refine calls_W (fn := Try.f29) (rs := [.tmp 2]) (n := 35) Try.func29 rfl rfl Try.ntmps29 (by kernel_rfl) rfl ?_
  refine W_seq ?_
  refine W_region ?_
  refine WR_val rfl (rn_assign) ?_
  refine WR_nil ?_
  refine thenN ?_
  refine W_seq ?_
  refine W_region ?_
  refine WR_val rfl (rn_assign) ?_
  refine WR_nil ?_
  refine thenN ?_
  refine W_seq ?_
  refine W_seq ?_
  refine W_region ?_
  refine WR_val rfl (rn_assign) ?_
  refine WR_nil ?_
  refine thenN ?_
  refine W_block ?_
  refine W_loop (α := Nat × Value) (0, .slice none 0 0) (fun k => [(3, k.2), (4, .int .i64 ((2 * k.1 : Nat) : Int)), (0, .slice p m cp)]) (fun k w' => 2 * k.1 ≤ m + 1 ∧ ownsAt w' w.heap.size 48 128 k.2 k.1 (bv (secs (L.take (2 * k.1)))) ∧ Below w.heap.size w w')
    (fun k => m + 2 - 2 * k.1) ⟨rfl, rfl, rfl, rfl⟩ ⟨by simp only; omega, ownsAt_nil _ _ _ _, hB⟩ ?_
  rintro ⟨k, v3⟩ f wr ⟨hk, hv3, hBr⟩
  simp only at hk hv3
  have hBi := Below.refl wr.heap.size wr
  have hszr := hBr.size
  refine W_seq ?_
  refine W_seq ?_
  refine W_region ?_
  refine WR_val rfl (rn_move) ?_
  refine WR_val rfl (rn_move) ?_
  refine WR_val rfl (rn_lenSl (e := 25) (sz := 1) (by kernel_rfl) rfl rfl) ?_
  refine WR_val rfl (rn_lss rfl rfl) ?_
  refine WR_nil ?_
  refine thenN ?_
  refine W_ifp rfl (fun hlt => ?_) (fun hlt => ?_)
  ·
    refine W_skip ?_
    refine thenN ?_
    refine W_seq ?_
    refine W_block ?_
    refine W_seq ?_
    have hobt : ∃ a, L[2 * k]? = some a := ⟨_, List.getElem?_eq_getElem (by omega)⟩
    obtain ⟨a, hga⟩ := hobt
    have ha : a.length = 64 := hL a (List.mem_of_getElem? hga)
    have hobt := hs.get (2 * k) hga
    obtain ⟨ba, oa, ca, hva, hsa, hba, -⟩ := hobt
    have hobt := h.some (by omega)
    obtain ⟨gp, op, rfl, hgp⟩ := hobt
    refine W_region ?_
    refine WR_mk rfl (mk_alloc (List.replicate 128 (byteV 0)) (by kernel_rfl) (fun g5 w5 hg5 hr5 hb5 => ?_))
    have ge_hBr_g5 := Nat.le_trans hBr.size hg5
    have ge_hBi_g5 := Nat.le_trans hBi.size hg5
    replace hBr := hBr.acc hb5
    replace hBi := hBi.acc hb5
    refine WR_nil ?_
    refine thenN ?_
    refine W_seq ?_
    refine W_draw' [g5] (by kernel_rfl) ?_
    intro w901 hb901 hS901
    replace hr5 := hr5.new hb901
    replace hBr := hBr.acc hb901
    replace hBi := hBi.acc hb901
    have hr5_d901 := hr5
    have hBr_d901 := hBr
    have hBi_d901 := hBi
    refine WA_take 0 (by kernel_rfl) rfl (fun _ _ => rn_sliceAr1' (e := 5) (0) (128) (128) (128) (by kernel_rfl) rfl rfl rfl rfl (by simp) (by omega) (by omega) (by omega) (by omega) (by omega)) ?_
    refine WA_take 1 (by kernel_rfl) rfl (fun _ _ => rn_move) ?_
    refine WA_take 2 (by kernel_rfl) rfl (fun _ _ => rn_move) ?_
    refine WA_take 3 (by kernel_rfl) rfl (fun _ _ => rn_indexSl1 (e := 25) (by kernel_rfl) rfl rfl (2 * k) (by omega) (by omega)) ?_
    refine WA_take 4 (by kernel_rfl) rfl (fun w' hS' => rn_load rfl (Ld.sl1 (h.below (hBr_d901.kpd hS' (by first | (simp; done) | (simp; omega))) (Nat.le_refl _)) (by kernel_rfl) hva)) ?_
    refine WA_one 5 (by kernel_rfl) ?_
    refine WO_mk rfl rfl (mk_copy (e := 5) (by kernel_rfl) (by kernel_rfl) rfl rfl g5 (0) hr5 (bv a) (by rw [bv_length]; simp [Nat.min_def]; omega) (fun _ => ⟨rfl, _, rfl, fun j v hv => by rw [Addr.add_lit]; exact (hsa.below hBr (Nat.le_refl _)).cell j hv⟩) (by rw [bv_length, ha, List.length_replicate]; omega) (bv_one _) (fun w17 hr5 ho17 => ?_))
    have hS902 := hS901.add1 ho17 (by first | (left; omega) | (right; simp; done) | (right; simp; omega))
    refine ⟨hS902, ?_⟩
    replace hBr := ho17.below hBr ge_hBr_g5
    replace hBi := ho17.below hBi ge_hBi_g5
    rw [splice_first a ha] at hr5
    refine WA_done (by kernel_rfl) ?_
    refine thenN ?_
    refine W_seq ?_
    refine W_seq ?_
    refine W_region ?_
    refine WR_val rfl (rn_move) ?_
    refine WR_val rfl (rn_add rfl rfl (Coup.w64 (by omega))) ?_
    refine WR_val rfl (rn_move) ?_
    refine WR_val rfl (rn_lenSl (e := 25) (sz := 1) (by kernel_rfl) rfl rfl) ?_
    refine WR_val rfl (rn_lss rfl rfl) ?_
    refine WR_nil ?_
    refine thenN ?_
    refine W_ifp rfl (fun h2 => ?_) (fun h2 => ?_)
    ·
      have hobt : ∃ b, L[2 * k + 1]? = some b := ⟨_, List.getElem?_eq_getElem (by omega)⟩
      obtain ⟨b2, hgb⟩ := hobt
      have hb2 : b2.length = 64 := hL b2 (List.mem_of_getElem? hgb)
      have hb3 : L.getD (2 * k + 1) (zerosB 64) = b2 := by rw [List.getD_eq_getElem?_getD, hgb]; rfl
      have hobt := hs.get (2 * k + 1) hgb
      obtain ⟨bb, ob, cb, hvb, hsb, hbb, -⟩ := hobt
      refine W_draw' [g5] (by kernel_rfl) ?_
      intro w903 hb903 hS903
      replace hr5 := hr5.new hb903
      replace hBr := hBr.acc hb903
      replace hBi := hBi.acc hb903
      have hr5_d903 := hr5
      have hBr_d903 := hBr
      have hBi_d903 := hBi
      refine WA_take 0 (by kernel_rfl) rfl (fun _ _ => rn_sliceAr1' (e := 5) (64) (128) (128) (64) (by kernel_rfl) rfl ⟨_, _, rfl, rfl⟩ rfl rfl (by simp) (by omega) (by omega) (by omega) (by omega) (by omega)) ?_
      refine WA_take 1 (by kernel_rfl) rfl (fun _ _ => rn_move) ?_
      refine WA_take 2 (by kernel_rfl) rfl (fun _ _ => rn_move) ?_
      refine WA_take 3 (by kernel_rfl) rfl (fun _ _ => rn_add rfl rfl (Coup.w64 (by omega))) ?_
      refine WA_take 4 (by kernel_rfl) rfl (fun _ _ => rn_indexSl1 (e := 25) (by kernel_rfl) rfl rfl (2 * k + 1) (by omega) (by omega)) ?_
      refine WA_take 5 (by kernel_rfl) rfl (fun w' hS' => rn_load rfl (Ld.sl1 (h.below (hBr_d903.kpd hS' (by first | (simp; done) | (simp; omega))) (Nat.le_refl _)) (by kernel_rfl) hvb)) ?_
      refine WA_one 6 (by kernel_rfl) ?_
      refine WO_mk rfl rfl (mk_copy (e := 5) (by kernel_rfl) (by kernel_rfl) rfl rfl g5 ((0 + 64)) hr5 (bv b2) (by rw [bv_length]; simp [Nat.min_def]; omega) (fun _ => ⟨rfl, _, rfl, fun j v hv => by rw [Addr.add_lit]; exact (hsb.below hBr (Nat.le_refl _)).cell j hv⟩) (by rw [bv_length, hb2, bv_length, List.length_append, ha, zerosB, List.length_replicate]; omega) (bv_one _) (fun w29 hr5 ho29 => ?_))
      have hS904 := hS903.add1 ho29 (by first | (left; omega) | (right; simp; done) | (right; simp; omega))
      refine ⟨hS904, ?_⟩
      replace hBr := ho29.below hBr ge_hBr_g5
      replace hBi := ho29.below hBi ge_hBi_g5
      rw [Nat.zero_add, splice_second a b2 ha hb2] at hr5
      refine WA_done (by kernel_rfl) ?_
      refine thenN ?_
      refine W_region ?_
      refine WR_val rfl (rn_move) ?_
      have hse : (a ++ b2).length = 128 := by rw [List.length_append, ha, hb2]
      refine WR_val rfl (rn_load rfl (Ld.rowA (k := 128) hr5 (by kernel_rfl) (by kernel_rfl) (by rw [bv_length, hse]))) ?_
      refine WR_mk rfl (mk_one (e := 48) (.agg (bv (a ++ b2)).toArray) (bv (a ++ b2)) (List.replicate 128 (Value.int .u8 0)) 128 (by kernel_rfl) (by kernel_rfl) rfl rfl (by first | rfl | (simp; done) | (simp [bv_length, *]; done)) ⟨by decide, by decide⟩ (fun g32 w32 hg32 hr32 hb32 => ?_))
      have ge_hBr_g32 := Nat.le_trans hBr.size hg32
      have ge_hBi_g32 := Nat.le_trans hBi.size hg32
      have lt_g5_g32 : g5 < g32 := Nat.lt_of_lt_of_le hr5.lt hg32
      replace hr5 := hr5.new hb32
      replace hBr := hBr.acc hb32
      replace hBi := hBi.acc hb32
      have hs32 := hr32.slA (m := 1) (sz := 128) (by rw [bv_length, hse]) (by unfold maxLen; omega)
      have hv3 := hv3.new hBi
      have sz_hBr_33 := hBr.size
      refine WR_mk rfl (mk_append (e := 48) (sz := 128) (bytes := 128) (z := .agg (List.replicate 128 (Value.int .u8 0)).toArray) (by kernel_rfl) rfl (by kernel_rfl) rfl (by decide) rfl hv3 rfl hs32 (bv_one _) (by unfold maxLen; omega) (by omega) (fun hm0 => by omega) (fun v33 w33 hv33 hgr33 hfr33 => ?_))
      replace hBr := hBr.own hv3 hgr33 (by omega)
      refine WR_val rfl (rn_assign) ?_
      refine WR_nil ?_
      refine blockN ?_
      refine thenN ?_
      refine W_region ?_
      refine WR_val rfl (rn_move) ?_
      refine WR_val rfl (rn_add rfl rfl (Coup.w64 (by omega))) ?_
      refine WR_val rfl (rn_assign) ?_
      refine WR_nil ?_
      refine loopN ⟨(k + 1, v33), by simp only; omega, ⟨rfl, by go_num, rfl, rfl⟩, by simp only; omega, ?_, hBr⟩
      rw [secs_step k L (by omega), bv_append]
      rw [show L.getD (2 * k) [] = a by rw [List.getD_eq_getElem?_getD, hga]; rfl, hb3]
      exact hv33
    ·
      obtain ⟨b2, hb2', hb2⟩ : ∃ b, b = zerosB 64 ∧ b.length = 64 := ⟨_, rfl, by simp [zerosB]⟩
      have hb3 : L.getD (2 * k + 1) (zerosB 64) = b2 := by rw [List.getD_eq_getElem?_getD, List.getElem?_eq_none (by omega)]; exact hb2'.symm
      rw [← hb2'] at hr5
      clear hb2'
      refine W_skip ?_
      refine thenN ?_
      refine W_region ?_
      refine WR_val rfl (rn_move) ?_
      have hse : (a ++ b2).length = 128 := by rw [List.length_append, ha, hb2]
      refine WR_val rfl (rn_load rfl (Ld.rowA (k := 128) hr5 (by kernel_rfl) (by kernel_rfl) (by rw [bv_length, hse]))) ?_
      refine WR_mk rfl (mk_one (e := 48) (.agg (bv (a ++ b2)).toArray) (bv (a ++ b2)) (List.replicate 128 (Value.int .u8 0)) 128 (by kernel_rfl) (by kernel_rfl) rfl rfl (by first | rfl | (simp; done) | (simp [bv_length, *]; done)) ⟨by decide, by decide⟩ (fun g32 w32 hg32 hr32 hb32 => ?_))
      have ge_hBr_g32 := Nat.le_trans hBr.size hg32
      have ge_hBi_g32 := Nat.le_trans hBi.size hg32
      have lt_g5_g32 : g5 < g32 := Nat.lt_of_lt_of_le hr5.lt hg32
      replace hr5 := hr5.new hb32
      replace hBr := hBr.acc hb32
      replace hBi := hBi.acc hb32
      have hs32 := hr32.slA (m := 1) (sz := 128) (by rw [bv_length, hse]) (by unfold maxLen; omega)
      have hv3 := hv3.new hBi
      have sz_hBr_33 := hBr.size
      refine WR_mk rfl (mk_append (e := 48) (sz := 128) (bytes := 128) (z := .agg (List.replicate 128 (Value.int .u8 0)).toArray) (by kernel_rfl) rfl (by kernel_rfl) rfl (by decide) rfl hv3 rfl hs32 (bv_one _) (by unfold maxLen; omega) (by omega) (fun hm0 => by omega) (fun v33 w33 hv33 hgr33 hfr33 => ?_))
      replace hBr := hBr.own hv3 hgr33 (by omega)
      refine WR_val rfl (rn_assign) ?_
      refine WR_nil ?_
      refine blockN ?_
      refine thenN ?_
      refine W_region ?_
      refine WR_val rfl (rn_move) ?_
      refine WR_val rfl (rn_add rfl rfl (Coup.w64 (by omega))) ?_
      refine WR_val rfl (rn_assign) ?_
      refine WR_nil ?_
      refine loopN ⟨(k + 1, v33), by simp only; omega, ⟨rfl, by go_num, rfl, rfl⟩, by simp only; omega, ?_, hBr⟩
      rw [secs_step k L (by omega), bv_append]
      rw [show L.getD (2 * k) [] = a by rw [List.getD_eq_getElem?_getD, hga]; rfl, hb3]
      exact hv33
  ·
    refine W_exit ?_
    refine thenX ?_
    refine loopX ?_
    refine blockX ?_
    refine thenN ?_
    refine W_seq ?_
    refine W_region ?_
    refine WR_val rfl (rn_move) ?_
    refine WR_val rfl (rn_assign) ?_
    refine WR_nil ?_
    refine thenN ?_
    refine W_ret ?_
    refine ret_ret [_] ⟨rfl, trivial⟩ ?_
    refine ⟨?_, hBr⟩
    obtain hk2 : k = (m + 1) / 2 := by omega
    subst hk2
    rw [List.take_of_length_le (by omega)] at hv3
    exact hv3
theorem halves19r (c nn : Nat) (b : List UInt8) (p : Option Addr) (n cp : Nat) (w : World) (h : SlAt w p n 1 (bv b)) (hn : n ≤ 1000000) (hc : c < 18446744073709551616) (hnn : nn < 9223372036854775808) :
    Calls Try.prog 19 [.agg #[.int .u64 c, .int .i64 nn], .slice p n cp].toArray w
      (Ret fun v w' => ∃ vs q cq, v = .slice q (manyN b.length) cq ∧ SlAt w' q (manyN b.length) 1 vs ∧ SlsAt w' w.heap.size v.ownBlock vs (halvesL c nn b) ∧ Below w.heap.size w w') :=
  (halves19 c nn b p n cp w h hn hc hnn).to fun v w' ⟨vs, h1, h2, h3⟩ => by
    obtain ⟨q, cq, rfl⟩ := h1.form
    exact ⟨vs, q, cq, rfl, h1.sl, h2, h3⟩
theorem row15 (c nn : Nat) (b : List UInt8) (p : Option Addr) (n cp : Nat) (w : World) (h : SlAt w p n 1 (bv b)) (hn : n ≤ 1000000) (hc : c < 18446744073709551616) (hnn : nn < 9223372036854775808) :
    Calls Try.prog 15 [.agg #[.int .u64 c, .int .i64 nn], .slice p n cp].toArray w
      (Ret fun v w' => ∃ q cq, v = .slice q (needN n) cq ∧ SlAt w' q (needN n) 128 (bv (rowB c nn b)) ∧ Below w.heap.size w w') := by
  have hB := Below.refl w.heap.size w
  have hl : b.length = n := by simpa [bv_length] using h.len
  have hmn : manyN n ≤ 100000 := by unfold manyN; omega
  refine calls_W (fn := Try.f15) (rs := [.tmp 4]) (n := 9) Try.func15 rfl rfl Try.ntmps15 (by kernel_rfl) rfl ?_
  refine W_seq ?_
  refine W_region ?_
  refine WR_mk rfl (mk_box ([.int .u64 c, .int .i64 nn]) rfl (fun g2 w2 hg2 hr2 hb2 => ?_))
  have ge_hB_g2 := Nat.le_trans hB.size hg2
  replace hB := hB.acc hb2
  refine WR_val rfl (rn_assign) ?_
  refine WR_nil ?_
  refine thenN ?_
  refine W_seq ?_
  refine W_region ?_
  refine WR_val rfl (rn_load rfl (Ld.rowA (k := 2) hr2 (by kernel_rfl) (by kernel_rfl) (by first | (simp; done) | (simp [bv_length, *]; done)))) ?_
  refine WR_val rfl (rn_move) ?_
  refine WR_ent rfl (rn_call (by kernel_rfl) rfl) (halves19r c nn b p n cp w2 (h.below hB (Nat.le_refl _)) hn hc hnn) ?_
  rintro _ w7 ⟨vs, q, cq, rfl, hq, hsl, hb7⟩
  replace hr2 := hr2.new hb7
  replace hB := hB.acc hb7
  refine WR_ent rfl (rn_call (by kernel_rfl) rfl) (sectors29 (halvesL c nn b) (halvesL_64 c nn b) _ vs q (manyN b.length) cq w7 hq hsl (halvesL_len c nn b) (by rw [hl]; exact hmn)) ?_
  rintro _ w8 ⟨hv8, hb8⟩
  replace hr2 := hr2.new hb8
  replace hB := hB.acc hb8
  refine WR_val rfl (rn_assign) ?_
  refine WR_nil ?_
  refine thenN ?_
  refine W_ret ?_
  refine ret_ret [_] ⟨rfl, trivial⟩ ?_
  obtain ⟨q2, cq2, rfl⟩ := hv8.form
  rw [hl] at hv8
  refine ⟨q2, cq2, by rw [hl]; rfl, ?_, hB⟩
  rw [rowB_secs]
  exact hv8.sl
end Go.Proofs.Ytnlocpldghpfcaa
