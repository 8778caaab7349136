import Derived.Test.YtpndhildmfmcgaaM1
import Derived.Test.YtpndhildmfmcgaaM0
namespace Go.Proofs.Ytpndhildmfmcgaa
open Go Go.RowKit Coup
def readsD (D : Dk) : List Sec := D.V.map lastS
def sameD (A E : Dk) : Bool := decide (lastsD A = lastsD E ∧ readsD A = readsD E)
theorem reads_at {D : Dk} {i : Nat} (hi : i < D.V.length) : (readsD D)[i]? = some (readD D i) := by
  rw [readsD, List.getElem?_map, ver_at hi]; rfl
theorem lasts_len (D : Dk) : (lastsD D).length = D.V.length := by simp [lastsD]
theorem reads_len (D : Dk) : (readsD D).length = D.V.length := by simp [readsD]
theorem sameD_of {A E : Dk} (hl : A.V.length = E.V.length) (h : ∀ i, i < A.V.length → headS (ver A i) = headS (ver E i) ∧ readD A i = readD E i) : sameD A E = true := by
  refine decide_eq_true ⟨List.ext_getElem? fun i => ?_, List.ext_getElem? fun i => ?_⟩
  · by_cases hi : i < A.V.length
    · rw [lasts_at hi, lasts_at (hl ▸ hi), (h i hi).1]
    · rw [List.getElem?_eq_none (by rw [lasts_len]; omega), List.getElem?_eq_none (by rw [lasts_len]; omega)]
  · by_cases hi : i < A.V.length
    · rw [reads_at hi, reads_at (hl ▸ hi), (h i hi).2]
    · rw [List.getElem?_eq_none (by rw [reads_len]; omega), List.getElem?_eq_none (by rw [reads_len]; omega)]
theorem sameD_not {A E : Dk} {i : Nat} (hi : i < A.V.length) (hl : A.V.length = E.V.length) (h : headS (ver A i) ≠ headS (ver E i) ∨ readD A i ≠ readD E i) : sameD A E = false := by
  refine decide_eq_false fun ⟨h1, h2⟩ => ?_
  have e1 := lasts_at hi
  have e2 := lasts_at (D := E) (hl ▸ hi)
  have e3 := reads_at hi
  have e4 := reads_at (D := E) (hl ▸ hi)
  rw [h1, e2] at e1
  rw [h2, e4] at e3
  rcases h with h | h
  · exact h (Option.some.inj e1).symm
  · exact h (Option.some.inj e3).symm
theorem sameD_len {A E : Dk} (hl : A.V.length ≠ E.V.length) : sameD A E = false := by
  refine decide_eq_false fun ⟨h1, _⟩ => hl ?_
  rw [← lasts_len A, h1, lasts_len]
set_option maxRecDepth 8000 in
set_option maxHeartbeats 1000000 in
theorem same19 {w : World} {g h' pl m pl' m' : Nat} {G G' : List Nat} {A E : Dk} {ol cl ol' cl' : Nat} {st st' : Int} {fu fu' : Bool} {sv sv' : Nat → Value} (hA : DkM w g pl m G A ol cl st fu sv) (hE : DkM w h' pl' m' G' E ol' cl' st' fu' sv') :
    Calls Try.prog 19 [.pointer (some ⟨g, 0, none⟩), .pointer (some ⟨h', 0, none⟩)].toArray w (Ret fun v w' => v = .bool (sameD A E) ∧ Below w.heap.size w w') := by
  have hB := Below.refl w.heap.size w
  have hSA := sectors27 hA
  have hSE := sectors27 hE
  have hn8 := hA.ok.n
  refine calls_W (fn := Try.f19) (rs := [.tmp 4]) (n := 41) Try.func19 rfl rfl Try.ntmps19 (by kernel_rfl) rfl ?_
  refine W_seq (W_region (WR_val rfl (rn_assign) (WR_nil (thenN (W_seq (W_seq (W_region (WR_val rfl (rn_move) ?_))))))))
  refine WR_ent rfl (rn_call (by kernel_rfl) rfl) (hSA) ?_
  rintro _ _ ⟨rfl, rfl⟩
  refine WR_val rfl (rn_move) ?_
  refine WR_ent rfl (rn_call (by kernel_rfl) rfl) (hSE) ?_
  rintro _ _ ⟨rfl, rfl⟩
  refine WR_val rfl (rn_neq rfl rfl) ?_
  refine WR_nil (thenN ?_)
  refine W_ifp rfl (fun hne => ?_) (fun hne => ?_)
  ·
   refine W_seq (W_region (WR_val rfl (rn_assign) (WR_nil (thenN (W_ret (thenR ?_))))))
   refine ret_ret [_] ⟨rfl, trivial⟩ ?_
   exact ⟨by rw [sameD_len (by omega)]; rfl, hB⟩
  ·
   have hl : A.V.length = E.V.length := by omega
   refine W_skip (thenN (W_seq (W_seq (W_region (WR_val rfl (rn_move) ?_)))))
   refine WR_ent rfl (rn_call (by kernel_rfl) rfl) (hSA) ?_
   rintro _ _ ⟨rfl, rfl⟩
   refine WR_val rfl (rn_move) (WR_nil (thenN (W_block ?_)))
   refine W_loop (α := Nat) 0 (fun k => [(13, .int .i64 (k : Nat)), (12, .int .i64 (A.V.length : Nat)), (0, .pointer (some ⟨g, 0, none⟩)), (1, .pointer (some ⟨h', 0, none⟩))])
     (fun k w' => k ≤ A.V.length ∧ (∀ j, j < k → headS (ver A j) = headS (ver E j) ∧ readD A j = readD E j) ∧ Below w.heap.size w w') (fun k => A.V.length - k)
     ⟨rfl, rfl, rfl, rfl, rfl⟩ ⟨Nat.zero_le _, (by intro j hj; exact absurd hj (Nat.not_lt_zero _)), hB⟩ ?_
   rintro k f wr ⟨hk, hall, hB⟩
   have hA1 := hA.new hB
   have hE1 := hE.new hB
   refine W_seq (W_region ?_)
   refine WR_val rfl (rn_lss rfl rfl) ?_
   refine WR_nil (thenN (W_seq ?_))
   refine W_ifp rfl (fun hlt => ?_) (fun hlt => ?_)
   ·
    refine W_skip (thenN (W_seq (W_block (W_seq (W_region (WR_val rfl (rn_move) (WR_val rfl (rn_assign) (WR_nil (thenN (W_seq ?_))))))))))
    have hr := hA1.row
    have hr' := hE1.row
    have hown := hA1.own
    have hown' := hE1.own
    have hla := lasts_at (D := A) (i := k) (by omega)
    have hle := lasts_at (D := E) (i := k) (by omega)
    have hva := ver_ok hA.ok (i := k) (by omega)
    have hve := ver_ok hE.ok (i := k) (by omega)
    have hal := headS_ok hva.2.1
    have hel := headS_ok hve.2.1
    have hral := lastS_ok hva.2.1
    have hrel := lastS_ok hve.2.1
    have hobt : ∃ a, headS (ver A k) = a := ⟨_, rfl⟩
    obtain ⟨a, ha⟩ := hobt
    have hobt : ∃ e, headS (ver E k) = e := ⟨_, rfl⟩
    obtain ⟨e, he⟩ := hobt
    have hobt : ∃ ra, readD A k = ra := ⟨_, rfl⟩
    obtain ⟨ra, hra⟩ := hobt
    have hobt : ∃ re, readD E k = re := ⟨_, rfl⟩
    obtain ⟨re, hre⟩ := hobt
    have hNA := fun w' (h : DkM w' g pl m G A ol cl st fu sv) => now38 h k (by omega)
    have hNE := fun w' (h : DkM w' h' pl' m' G' E ol' cl' st' fu' sv') => now38 h k (by omega)
    rw [hra] at hNA
    rw [hre] at hNE
    rw [ha] at hla hal
    rw [he] at hle hel
    change (readD A k).length = 128 at hral
    change (readD E k).length = 128 at hrel
    rw [hra] at hral
    rw [hre] at hrel
    refine W_draw' [] (by kernel_rfl) ?_
    intro w901 hb901 hS901
    replace hA1 := hA1.new hb901
    replace hE1 := hE1.new hb901
    replace hr := hr.new hb901
    replace hr' := hr'.new hb901
    replace hown := hown.new hb901
    replace hown' := hown'.new hb901
    replace hB := hB.acc hb901
    have hA1_d901 := hA1
    have hE1_d901 := hE1
    have hr_d901 := hr
    have hr'_d901 := hr'
    have hown_d901 := hown
    have hown'_d901 := hown'
    have hB_d901 := hB
    refine WA_take 0 (by kernel_rfl) rfl (fun _ _ => rn_move) ?_
    refine WA_take 1 (by kernel_rfl) rfl (fun _ _ => rn_nilCheckP rfl) ?_
    refine WA_take 2 (by kernel_rfl) rfl (fun _ _ => rn_fieldAddr (off := 0) (by kernel_rfl) rfl) ?_
    refine WA_take 3 (by kernel_rfl) rfl (fun w' hS' => rn_load rfl (Ld.row1 (hr_d901.kq hS') (by kernel_rfl) rfl)) ?_
    refine WA_take 4 (by kernel_rfl) rfl (fun _ _ => rn_move) ?_
    refine WA_take 5 (by kernel_rfl) rfl (fun _ _ => rn_indexSl (e := 34) (sz := 128) (by kernel_rfl) rfl rfl (k) (by omega) (by omega)) ?_
    refine WA_take 6 (by kernel_rfl) rfl (fun w' hS' => rn_load rfl (ld_sec (hown_d901.kpd hS' (by first | (simp; done) | (simp; omega) | (simp [*]; done) | exact notLL (Or.inl (by omega)) | exact notLL (Or.inr (by simp)) | exact fun g hm => Nat.le_trans (by omega) (inLL hm).1 | (intro b o e; cases e; exact notLL (Or.inl (by omega))) | (intro b hm; have := (hu.lt b (Option.mem_toList.1 hm)).1; omega) | (intro b o e; cases e; intro hm; have := (hu.lt _ (Option.mem_toList.1 hm)).1; omega))).sl (lasts_ok hA.ok) hla)) ?_
    refine WA_take 7 (by kernel_rfl) rfl (fun _ _ => rn_move) ?_
    refine WA_take 8 (by kernel_rfl) rfl (fun _ _ => rn_nilCheckP rfl) ?_
    refine WA_take 9 (by kernel_rfl) rfl (fun _ _ => rn_fieldAddr (off := 0) (by kernel_rfl) rfl) ?_
    refine WA_take 10 (by kernel_rfl) rfl (fun w' hS' => rn_load rfl (Ld.row1 (hr'_d901.kpd hS' (by first | (simp; done) | (simp; omega) | (simp [*]; done) | exact notLL (Or.inl (by omega)) | exact notLL (Or.inr (by simp)) | exact fun g hm => Nat.le_trans (by omega) (inLL hm).1 | (intro b o e; cases e; exact notLL (Or.inl (by omega))) | (intro b hm; have := (hu.lt b (Option.mem_toList.1 hm)).1; omega) | (intro b o e; cases e; intro hm; have := (hu.lt _ (Option.mem_toList.1 hm)).1; omega))) (by kernel_rfl) rfl)) ?_
    refine WA_take 11 (by kernel_rfl) rfl (fun _ _ => rn_move) ?_
    refine WA_take 12 (by kernel_rfl) rfl (fun _ _ => rn_indexSl (e := 34) (sz := 128) (by kernel_rfl) rfl rfl (k) (by omega) (by omega)) ?_
    refine WA_take 13 (by kernel_rfl) rfl (fun w' hS' => rn_load rfl (ld_sec (hown'_d901.kpd hS' (by first | (simp; done) | (simp; omega) | (simp [*]; done) | exact notLL (Or.inl (by omega)) | exact notLL (Or.inr (by simp)) | exact fun g hm => Nat.le_trans (by omega) (inLL hm).1 | (intro b o e; cases e; exact notLL (Or.inl (by omega))) | (intro b hm; have := (hu.lt b (Option.mem_toList.1 hm)).1; omega) | (intro b o e; cases e; intro hm; have := (hu.lt _ (Option.mem_toList.1 hm)).1; omega))).sl (lasts_ok hE.ok) hle)) ?_
    refine WA_take 14 (by kernel_rfl) rfl (fun _ _ => rn_neqA (n := 128) (by kernel_rfl) rfl rfl hal hel) ?_
    refine WA_take 15 (by kernel_rfl) rfl (fun _ _ => rn_move) ?_
    refine WA_partn 31 rfl (fun hna => ?_) (fun hna => ?_)
    ·
     refine WA_skip 16 (by kernel_rfl) rfl ?_
     refine WA_skip 17 (by kernel_rfl) rfl ?_
     refine WA_skip 19 (by kernel_rfl) rfl ?_
     refine WA_skip 20 (by kernel_rfl) rfl ?_
     refine WA_skip 18 (by kernel_rfl) rfl ?_
     refine WA_skip 21 (by kernel_rfl) rfl ?_
     refine WA_skip 22 (by kernel_rfl) rfl ?_
     refine WA_take 23 (by kernel_rfl) rfl (fun _ _ => rn_pick_t rfl) ?_
     refine WA_done (by kernel_rfl) ?_
     refine thenN ?_
     refine W_tb rfl (rfl) ?_
     refine W_seq (W_region (WR_val rfl (rn_assign) (WR_nil (thenN (W_ret (blockR (thenR (loopR (blockR (thenR ?_))))))))))
     refine ret_ret [_] ⟨rfl, trivial⟩ ?_
     exact ⟨by rw [sameD_not (i := k) (by omega) hl (.inl (by rw [ha, he]; exact hna))]; rfl, hB⟩
    ·
     have hae : headS (ver A k) = headS (ver E k) := by rw [ha, he]; exact hna
     refine WA_take 16 (by kernel_rfl) rfl (fun _ _ => rn_move) ?_
     refine WA_take 17 (by kernel_rfl) rfl (fun _ _ => rn_move) ?_
     refine WA_take 19 (by kernel_rfl) rfl (fun _ _ => rn_move) ?_
     refine WA_take 20 (by kernel_rfl) rfl (fun _ _ => rn_move) ?_
     refine WA_one 18 (by kernel_rfl) ?_
     refine WO_ent rfl rfl (rn_call (by kernel_rfl) rfl) (hNA w901 hA1) ?_
     rintro _ w34 ⟨rfl, hb34⟩
     have hS902 := hS901.add0 hb34
     refine ⟨hS902, ?_⟩
     replace hA1 := hA1.new hb34
     replace hE1 := hE1.new hb34
     replace hr := hr.new hb34
     replace hr' := hr'.new hb34
     replace hown := hown.new hb34
     replace hown' := hown'.new hb34
     replace hB := hB.acc hb34
     refine WA_one 21 (by kernel_rfl) ?_
     refine WO_ent rfl rfl (rn_call (by kernel_rfl) rfl) (hNE w34 hE1) ?_
     rintro _ w37 ⟨rfl, hb37⟩
     have hS903 := hS902.add0 hb37
     refine ⟨hS903, ?_⟩
     replace hA1 := hA1.new hb37
     replace hE1 := hE1.new hb37
     replace hr := hr.new hb37
     replace hr' := hr'.new hb37
     replace hown := hown.new hb37
     replace hown' := hown'.new hb37
     replace hB := hB.acc hb37
     refine WA_take 22 (by kernel_rfl) rfl (fun _ _ => rn_neqA (n := 128) (by kernel_rfl) rfl rfl hral hrel) ?_
     refine WA_take 23 (by kernel_rfl) rfl (fun _ _ => rn_pick_f rfl) ?_
     refine WA_done (by kernel_rfl) ?_
     refine thenN ?_
     refine W_ifn rfl (fun hnr => ?_) (fun hnr => ?_)
     ·
      refine W_seq (W_region (WR_val rfl (rn_assign) (WR_nil (thenN (W_ret (blockR (thenR (loopR (blockR (thenR ?_))))))))))
      refine ret_ret [_] ⟨rfl, trivial⟩ ?_
      exact ⟨by rw [sameD_not (i := k) (by omega) hl (.inr (by rw [hra, hre]; exact hnr))]; rfl, hB⟩
     ·
      have hrr : readD A k = readD E k := by rw [hra, hre]; exact hnr
      refine W_skip (blockN (thenN (W_region ?_)))
      refine WR_val rfl (rn_add rfl rfl (Coup.w64 (by omega))) ?_
      refine WR_val rfl (rn_move) (WR_nil ?_)
      refine loopN ⟨k + 1, by omega, ⟨by go_num, rfl, rfl, rfl, rfl⟩, by omega, fun j hj => ?_, hB⟩
      rcases Nat.lt_or_ge j k with h1 | h1
      · exact hall j h1
      · obtain rfl : j = k := by omega
        exact ⟨hae, hrr⟩
   ·
    refine W_exit (thenX (loopX (blockX (thenN (W_seq (W_region (WR_val rfl (rn_assign) (WR_nil (thenN (W_ret ?_))))))))))
    refine ret_ret [_] ⟨rfl, trivial⟩ ?_
    exact ⟨by rw [sameD_of hl (fun i hi => hall i (by omega))]; rfl, hB⟩
theorem same {w : World} {g h' : Nat} {B C : List Nat} {A E : Dk} (hA : DkX w g B A) (hE : DkX w h' C E) :
    Calls Try.prog 19 [.pointer (some ⟨g, 0, none⟩), .pointer (some ⟨h', 0, none⟩)].toArray w (Ret fun v w' => v = .bool (sameD A E) ∧ Below w.heap.size w w') := by
  obtain ⟨pl, m, G, ol, cl, st, fu, sv, rfl, h1, h2⟩ := hA
  obtain ⟨pl', m', G', ol', cl', st', fu', sv', rfl, h3, h4⟩ := hE
  exact same19 h1 h3
def fullS (b : UInt8) : Sec := List.replicate 128 b
theorem full_len (b : UInt8) : (fullS b).length = 128 := List.length_replicate ..
theorem bv_set (l : List UInt8) (i : Nat) (b : UInt8) : (bv l).set i (.int .u8 (b.toNat : Int)) = bv (l.set i b) := by
  rw [bv, bv, List.map_set]; rfl
theorem set_step (b : UInt8) (i : Nat) (hi : i < 128) : (List.replicate i b ++ List.replicate (128 - i) (0 : UInt8)).set i b = List.replicate (i + 1) b ++ List.replicate (128 - (i + 1)) 0 := by
  have e1 : List.replicate (128 - i) (0 : UInt8) = 0 :: List.replicate (128 - (i + 1)) 0 := by rw [show 128 - i = (128 - (i + 1)) + 1 by omega, List.replicate_succ]
  rw [e1, List.set_append_right _ _ (by rw [List.length_replicate]; omega), List.length_replicate, Nat.sub_self, List.set_cons_zero, List.replicate_succ', List.append_assoc]
  rfl
set_option maxRecDepth 8000 in
theorem full28 (b : UInt8) (w : World) : Calls Try.prog 28 [.int .u8 (b.toNat : Int)].toArray w (Ret fun v w' => v = .agg (bv (fullS b)).toArray ∧ Below w.heap.size w w') := by
  have hB := Below.refl w.heap.size w
  obtain ⟨Z, hzz, hzb, hzl⟩ := zeroSQ
  refine calls_W (fn := Try.f28) (rs := [.cell 2 34]) (n := 13) Try.func28 rfl rfl Try.ntmps28 (by kernel_rfl) rfl ?_
  refine W_seq (W_region ?_)
  refine WR_mk rfl (mk_alloc (List.replicate 128 (Value.int .u8 0)) (by kernel_rfl) (fun g2 w2 hg2 hr2 hb2 => ?_))
  have ge_hB_g2 := Nat.le_trans hB.size hg2
  replace hB := hB.acc hb2
  rw [hzb] at hr2
  refine WR_nil (thenN (W_seq (W_region ?_)))
  refine WR_mk rfl (mk_alloc (List.replicate 128 (Value.int .u8 0)) (by kernel_rfl) (fun g3 w3 hg3 hr3 hb3 => ?_))
  have ge_hB_g3 := Nat.le_trans hB.size hg3
  have lt_g2_g3 : g2 < g3 := Nat.lt_of_lt_of_le hr2.lt hg3
  replace hr2 := hr2.new hb3
  replace hB := hB.acc hb3
  rw [hzb] at hr3
  refine WR_nil (thenN (W_seq (W_seq (W_region (WR_val rfl (rn_assign) (WR_nil (thenN (W_block ?_))))))))
  have hr3' : row w3 g3 (bv (List.replicate 0 b ++ List.replicate (128 - 0) 0)) 34 := by rw [← hzz] at hr3; exact hr3
  refine W_loop (α := Nat) 0 (fun i => [(4, .int .i64 (i : Nat)), (0, .int .u8 (b.toNat : Int)), (2, .pointer (some ⟨g2, 0, none⟩)), (3, .pointer (some ⟨g3, 0, none⟩))])
    (fun i w' => i ≤ 128 ∧ row w' g2 (bv Z) 34 ∧ row w' g3 (bv (List.replicate i b ++ List.replicate (128 - i) 0)) 34 ∧ Below w.heap.size w w') (fun i => 128 - i)
    ⟨rfl, rfl, rfl, rfl, rfl⟩ ⟨Nat.zero_le _, hr2, hr3', hB⟩ ?_
  clear hr2 hr3 hr3' hB
  rintro i f wr ⟨hi, hr2, hr3, hB⟩
  have hobt : ∃ L, List.replicate i b ++ List.replicate (128 - i) (0 : UInt8) = L := ⟨_, rfl⟩
  obtain ⟨L, hL⟩ := hobt
  have hLl : L.length = 128 := by rw [← hL, List.length_append, List.length_replicate, List.length_replicate]; omega
  have hll : (bv L).length = 128 := by rw [bv_length]; exact hLl
  rw [hL] at hr3
  refine W_seq (W_seq (W_region (WR_val rfl (rn_move) ?_)))
  refine WR_val rfl (rn_lss rfl rfl) ?_
  refine WR_nil (thenN ?_)
  refine W_ifp rfl (fun hlt => ?_) (fun hlt => ?_)
  ·
   refine W_skip (thenN (W_seq (W_block (W_region (WR_val rfl (rn_move) (WR_val rfl (rn_move) ?_))))))
   refine WR_val rfl (rn_indexAr1 (e := 5) (m := 128) (by kernel_rfl) rfl rfl (i) (by omega) (by omega)) ?_
   refine WR_sk rfl (sk_store1 rfl rfl rfl rfl hr3 (by kernel_rfl) (by first | (simp only [List.length_replicate]; omega) | (simp only [iv_length]; omega) | (simp only [bv_length, List.length_set]; omega) | simp) (fun w901 hr3 ho901 => ?_))
   replace hr2 := hr2.only ho901 (Nat.ne_of_lt lt_g2_g3)
   replace hB := ho901.below hB ge_hB_g3
   have hq : row w901 g3 ((bv L).set i (.int .u8 (b.toNat : Int))) 34 := by rw [Nat.zero_add] at hr3; exact hr3
   rw [bv_set, ← hL, set_step b i (by omega)] at hq
   refine WR_nil (blockN (thenN (W_region (WR_val rfl (rn_move) ?_))))
   refine WR_val rfl (rn_add rfl rfl (Coup.w64 (by omega))) ?_
   refine WR_val rfl (rn_assign) (WR_nil ?_)
   refine loopN ⟨i + 1, by omega, ⟨by go_num, rfl, rfl, rfl, rfl⟩, by omega, hr2, hq, hB⟩
  ·
   obtain rfl : i = 128 := by omega
   have hfl : List.replicate 128 b ++ List.replicate (128 - 128) (0 : UInt8) = fullS b := by simp [fullS]
   rw [hfl] at hL
   have hobt : ∃ F, fullS b = F := ⟨_, rfl⟩
   obtain ⟨F, hF⟩ := hobt
   rw [← hL, hF] at hr3 hll
   rw [hF]
   refine W_exit (thenX (loopX (blockX (thenN (W_seq (W_region ?_))))))
   refine WR_val rfl (rn_load rfl (Ld.rowA (k := 128) hr3 (by kernel_rfl) (by kernel_rfl) (by first | (simp; done) | (simp [bv_length, *]; done) | assumption))) ?_
   refine WR_sk rfl (sk_storeA 128 (bv F) rfl rfl hr2 (by kernel_rfl) (by first | assumption | (simp; done) | (simp [bv_length, *]; done)) (by first | assumption | (simp; done) | (simp [bv_length, *]; done) | rfl) (by first | exact bv_one _ | assumption | (simp [Value.oneCell']; done)) (fun w902 hr2 ho902 => ?_))
   replace hr3 := hr3.only ho902 (Nat.ne_of_gt lt_g2_g3)
   replace hB := ho902.below hB ge_hB_g2
   refine WR_nil (thenN (W_ret ?_))
   refine ret_ret [_] ⟨⟨_, rfl, Ld.rowA (k := 128) hr2 (by kernel_rfl) (by kernel_rfl) (by first | (simp; done) | (simp [bv_length, *]; done) | assumption)⟩, trivial⟩ ?_
   exact ⟨rfl, hB⟩
end Go.Proofs.Ytpndhildmfmcgaa
namespace Go.Proofs.Ytpndhildmfmcgaa
open Go Go.RowKit Coup
def mixT (a b : Sec) (i : Nat) : Sec := (List.range 128).map fun j => if 64 ≤ j ∧ j < i then b.getD j 0 else a.getD j 0
theorem mixT_get (a b : Sec) (i j : Nat) : (mixT a b i)[j]? = if j < 128 then some (if 64 ≤ j ∧ j < i then b.getD j 0 else a.getD j 0) else none := by
  rw [mixT, List.getElem?_map]
  by_cases h : j < 128
  · rw [List.getElem?_range h, if_pos h]; rfl
  · rw [List.getElem?_eq_none (by rw [List.length_range]; omega), if_neg h]; rfl
theorem mixT_len (a b : Sec) (i : Nat) : (mixT a b i).length = 128 := by simp [mixT]
theorem getD_some {a : Sec} {j : Nat} (h : j < a.length) : a[j]? = some (a.getD j 0) := by
  rw [List.getD_eq_getElem?_getD, List.getElem?_eq_getElem h]; rfl
theorem mixT_start {a b : Sec} (ha : a.length = 128) : mixT a b 64 = a := by
  refine List.ext_getElem? fun j => ?_
  rw [mixT_get]
  by_cases h : j < 128
  · rw [if_pos h, if_neg (by omega), getD_some (by omega)]
  · rw [if_neg h, List.getElem?_eq_none (by omega)]
theorem mixT_end {a b : Sec} (ha : a.length = 128) (hb : b.length = 128) : mixT a b 128 = tornS a b := by
  refine List.ext_getElem? fun j => ?_
  rw [mixT_get, tornS, List.getElem?_append, List.length_take, ha, List.getElem?_take, List.getElem?_drop]
  by_cases h : j < 128
  · by_cases h2 : 64 ≤ j
    · rw [if_pos h, if_pos ⟨h2, h⟩, if_neg (by omega), show 64 + (j - min 64 128) = j by omega, getD_some (by omega)]
    · rw [if_pos h, if_neg (by omega), if_pos (by omega), if_pos (by omega), getD_some (by omega)]
  · rw [if_neg h, if_neg (by omega), List.getElem?_eq_none (by omega)]
theorem mixT_step {a b : Sec} {i : Nat} (h1 : 64 ≤ i) (h2 : i < 128) : (mixT a b i).set i (b.getD i 0) = mixT a b (i + 1) := by
  refine List.ext_getElem? fun j => ?_
  rw [List.getElem?_set, mixT_len, mixT_get, mixT_get]
  by_cases h : i = j
  · subst h
    rw [if_pos rfl, if_pos h2, if_pos h2, if_pos (by omega)]
  · rw [if_neg h]
    by_cases h3 : j < 128
    · rw [if_pos h3, if_pos h3]
      congr 1
      by_cases h4 : 64 ≤ j ∧ j < i
      · rw [if_pos h4, if_pos (by omega)]
      · rw [if_neg h4, if_neg (by omega)]
    · rw [if_neg h3, if_neg h3]
set_option maxRecDepth 8000 in
theorem torn24 (a b : Sec) (w : World) (ha : a.length = 128) (hb : b.length = 128) : Calls Try.prog 24 [.agg (bv a).toArray, .agg (bv b).toArray].toArray w (Ret fun v w' => v = .agg (bv (tornS a b)).toArray ∧ Below w.heap.size w w') := by
  have hB := Below.refl w.heap.size w
  obtain ⟨Z, hzz, hzb, hzl⟩ := zeroSQ
  have hal : (bv a).length = 128 := by rw [bv_length]; exact ha
  have hbl : (bv b).length = 128 := by rw [bv_length]; exact hb
  have hst := mixT_start (b := b) ha
  refine calls_W (fn := Try.f24) (rs := [.cell 4 34]) (n := 16) Try.func24 rfl rfl Try.ntmps24 (by kernel_rfl) rfl ?_
  refine W_seq (W_region ?_)
  refine WR_mk rfl (mk_box ((bv a)) rfl (fun g2 w2 hg2 hr2 hb2 => ?_))
  have ge_hB_g2 := Nat.le_trans hB.size hg2
  replace hB := hB.acc hb2
  refine WR_mk rfl (mk_box ((bv b)) rfl (fun g3 w3 hg3 hr3 hb3 => ?_))
  have ge_hB_g3 := Nat.le_trans hB.size hg3
  have lt_g2_g3 : g2 < g3 := Nat.lt_of_lt_of_le hr2.lt hg3
  replace hr2 := hr2.new hb3
  replace hB := hB.acc hb3
  refine WR_mk rfl (mk_alloc (List.replicate 128 (Value.int .u8 0)) (by kernel_rfl) (fun g4 w4 hg4 hr4 hb4 => ?_))
  have ge_hB_g4 := Nat.le_trans hB.size hg4
  have lt_g2_g4 : g2 < g4 := Nat.lt_of_lt_of_le hr2.lt hg4
  have lt_g3_g4 : g3 < g4 := Nat.lt_of_lt_of_le hr3.lt hg4
  replace hr2 := hr2.new hb4
  replace hr3 := hr3.new hb4
  replace hB := hB.acc hb4
  rw [hzb] at hr4
  refine WR_nil (thenN (W_seq (W_seq (W_region (WR_val rfl (rn_assign) (WR_nil (thenN (W_block ?_))))))))
  rw [← hst] at hr2
  refine W_loop (α := Nat) 64 (fun i => [(5, .int .i64 (i : Nat)), (2, .pointer (some ⟨g2, 0, none⟩)), (3, .pointer (some ⟨g3, 0, none⟩)), (4, .pointer (some ⟨g4, 0, none⟩))])
    (fun i w' => 64 ≤ i ∧ i ≤ 128 ∧ row w' g2 (bv (mixT a b i)) 34 ∧ row w' g3 (bv b) 34 ∧ row w' g4 (bv Z) 34 ∧ Below w.heap.size w w') (fun i => 128 - i)
    ⟨rfl, rfl, rfl, rfl, rfl⟩ ⟨Nat.le_refl _, by omega, hr2, hr3, hr4, hB⟩ ?_
  clear hr2 hr3 hr4 hB
  rintro i f wr ⟨hi0, hi, hr2, hr3, hr4, hB⟩
  have hobt : ∃ L, mixT a b i = L := ⟨_, rfl⟩
  obtain ⟨L, hL⟩ := hobt
  have hLl : L.length = 128 := by rw [← hL]; exact mixT_len _ _ _
  have hll : (bv L).length = 128 := by rw [bv_length]; exact hLl
  rw [hL] at hr2
  refine W_seq (W_seq (W_region (WR_val rfl (rn_move) ?_)))
  refine WR_val rfl (rn_lss rfl rfl) ?_
  refine WR_nil (thenN ?_)
  refine W_ifp rfl (fun hlt => ?_) (fun hlt => ?_)
  ·
   refine W_skip (thenN (W_seq (W_block (W_region (WR_val rfl (rn_move) (WR_val rfl (rn_move) ?_))))))
   refine WR_val rfl (rn_indexAr1 (e := 5) (m := 128) (by kernel_rfl) rfl rfl (i) (by omega) (by omega)) ?_
   refine WR_val rfl (rn_load rfl (Ld.row1 hr3 (by kernel_rfl) (show (bv b)[0 + i]? = some (.int .u8 ((b.getD i 0).toNat : Int)) by rw [Nat.zero_add, bv, List.getElem?_map, getD_some (by omega)]; rfl))) ?_
   refine WR_val rfl (rn_indexAr1 (e := 5) (m := 128) (by kernel_rfl) rfl rfl (i) (by omega) (by omega)) ?_
   refine WR_sk rfl (sk_store1 rfl rfl rfl rfl hr2 (by kernel_rfl) (by first | (simp only [List.length_replicate]; omega) | (simp only [iv_length]; omega) | (simp only [bv_length, List.length_set]; omega) | simp) (fun w901 hr2 ho901 => ?_))
   replace hr3 := hr3.only ho901 (Nat.ne_of_gt lt_g2_g3)
   replace hr4 := hr4.only ho901 (Nat.ne_of_gt lt_g2_g4)
   replace hB := ho901.below hB ge_hB_g2
   have hq : row w901 g2 ((bv L).set i (.int .u8 ((b.getD i 0).toNat : Int))) 34 := by rw [Nat.zero_add] at hr2; exact hr2
   rw [bv_set, ← hL, mixT_step hi0 (by omega)] at hq
   refine WR_nil (blockN (thenN (W_region (WR_val rfl (rn_move) ?_))))
   refine WR_val rfl (rn_add rfl rfl (Coup.w64 (by omega))) ?_
   refine WR_val rfl (rn_assign) (WR_nil ?_)
   refine loopN ⟨i + 1, by omega, ⟨by go_num, rfl, rfl, rfl, rfl⟩, by omega, by omega, hq, hr3, hr4, hB⟩
  ·
   obtain rfl : i = 128 := by omega
   rw [mixT_end ha hb] at hL
   rw [hL]
   refine W_exit (thenX (loopX (blockX (thenN (W_seq (W_region ?_))))))
   refine WR_val rfl (rn_load rfl (Ld.rowA (k := 128) hr2 (by kernel_rfl) (by kernel_rfl) (by first | (simp; done) | (simp [bv_length, *]; done) | assumption))) ?_
   refine WR_sk rfl (sk_storeA 128 (bv L) rfl rfl hr4 (by kernel_rfl) (by first | assumption | (simp; done) | (simp [bv_length, *]; done)) (by first | assumption | (simp; done) | (simp [bv_length, *]; done) | rfl) (by first | exact bv_one _ | assumption | (simp [Value.oneCell']; done)) (fun w902 hr4 ho902 => ?_))
   replace hr2 := hr2.only ho902 (Nat.ne_of_lt lt_g2_g4)
   replace hr3 := hr3.only ho902 (Nat.ne_of_lt lt_g3_g4)
   replace hB := ho902.below hB ge_hB_g4
   refine WR_nil (thenN (W_ret ?_))
   refine ret_ret [_] ⟨⟨_, rfl, Ld.rowA (k := 128) hr4 (by kernel_rfl) (by kernel_rfl) (by first | (simp; done) | (simp [bv_length, *]; done) | assumption)⟩, trivial⟩ ?_
   exact ⟨rfl, hB⟩
def VsAt (w : World) (G : List Nat) (vs : List Value) (V : List (List Sec)) : Prop :=
  vs.length = V.length ∧ ∀ (i : Nat) (v : List Sec), V[i]? = some v → ∃ p c, vs[i]? = some (.slice p v.length c) ∧ SlAt w p v.length 128 (bv v.flatten) ∧ ∀ b o, p = some ⟨b, o, none⟩ → b ∈ G
theorem VsAt.kpd {w w' : World} {G M : List Nat} {vs : List Value} {V : List (List Sec)} (h : VsAt w G vs V) (k : Kp M w w') (hM : ∀ b ∈ G, b ∉ M) : VsAt w' G vs V :=
  ⟨h.1, fun i v hv => by
    obtain ⟨p, c, h1, h2, h3⟩ := h.2 i v hv
    exact ⟨p, c, h1, h2.kpd k fun b o e => hM b (h3 b o e), h3⟩⟩
theorem VsAt.weak {w : World} {G G' : List Nat} {vs : List Value} {V : List (List Sec)} (h : VsAt w G vs V) (hG : ∀ b ∈ G, b ∈ G') : VsAt w G' vs V :=
  ⟨h.1, fun i v hv => by
    obtain ⟨p, c, h1, h2, h3⟩ := h.2 i v hv
    exact ⟨p, c, h1, h2, fun b o e => hG b (h3 b o e)⟩⟩
theorem VsAt.push {w : World} {G : List Nat} {vs : List Value} {V : List (List Sec)} {v : List Sec} {p : Option Addr} {c : Nat} (h : VsAt w G vs V) (h2 : SlAt w p v.length 128 (bv v.flatten)) (h3 : ∀ b o, p = some ⟨b, o, none⟩ → b ∈ G) : VsAt w G (vs ++ [.slice p v.length c]) (V ++ [v]) := by
  refine ⟨by simp [h.1], fun i u hu => ?_⟩
  rw [List.getElem?_append] at hu ⊢
  rw [h.1]
  by_cases hi : i < V.length
  · rw [if_pos hi] at hu ⊢
    exact h.2 i u hu
  · rw [if_neg hi] at hu ⊢
    by_cases h0 : i - V.length = 0
    · rw [h0] at hu ⊢
      obtain rfl : v = u := by simpa using hu
      exact ⟨p, c, rfl, h2, h3⟩
    · rw [List.getElem?_eq_none (by simp; omega)] at hu; cases hu
theorem VsAt.set {w : World} {G : List Nat} {vs : List Value} {V : List (List Sec)} {i : Nat} {v : List Sec} {p : Option Addr} {c : Nat} (h : VsAt w G vs V) (hi : i < V.length) (h2 : SlAt w p v.length 128 (bv v.flatten)) (h3 : ∀ b o, p = some ⟨b, o, none⟩ → b ∈ G) : VsAt w G (vs.set i (.slice p v.length c)) (V.set i v) := by
  refine ⟨by simp [h.1], fun j u hu => ?_⟩
  rw [List.getElem?_set] at hu ⊢
  by_cases hij : i = j
  · subst hij
    rw [if_pos rfl, if_pos hi] at hu
    obtain rfl : v = u := by simpa using hu
    exact ⟨p, c, by rw [if_pos rfl, if_pos (by rw [h.1]; exact hi)], h2, h3⟩
  · rw [if_neg hij] at hu ⊢
    exact h.2 j u hu
structure RfM (w : World) (g pv : Nat) (G : List Nat) (D : Dk) (ov cv : Nat) (vs : List Value) : Prop where
  row : Coup.row w g [.slice (some ⟨pv, ov, none⟩) D.V.length cv, .int .i64 D.left, .bool D.dead] 58
  own : OwnG w 0 52 1 pv ov D.V.length cv vs
  vs : VsAt w G vs D.V
  inG : ∀ b ∈ G, b < w.heap.size
  ne : g ≠ pv ∧ ∀ b ∈ G, b ≠ g ∧ b ≠ pv
  left : -1 ≤ D.left ∧ D.left ≤ 9223372036854775807
  ok : DkOk D
  pos : 0 < D.V.length
def RfX (w : World) (g : Nat) (C : List Nat) (D : Dk) : Prop := ∃ pv G ov cv vs, C = [g, pv] ++ G ∧ RfM w g pv G D ov cv vs
theorem RfM.kpd {w w' : World} {g pv : Nat} {G M : List Nat} {D : Dk} {ov cv : Nat} {vs : List Value} (h : RfM w g pv G D ov cv vs) (k : Kp M w w') (hM : g ∉ M ∧ pv ∉ M ∧ ∀ b ∈ G, b ∉ M) : RfM w' g pv G D ov cv vs :=
  ⟨h.row.kpd k hM.1, h.own.kpd k hM.2.1, h.vs.kpd k hM.2.2, fun b hb => Nat.lt_of_lt_of_le (h.inG b hb) k.size, h.ne, h.left, h.ok, h.pos⟩
theorem RfM.new {w w' : World} {g pv : Nat} {G : List Nat} {D : Dk} {ov cv : Nat} {vs : List Value} (h : RfM w g pv G D ov cv vs) (hb : Below w.heap.size w w') : RfM w' g pv G D ov cv vs := h.kpd (M := []) (Kp.of_below hb) (by simp)
theorem RfX.kpd {w w' : World} {g : Nat} {C M : List Nat} {D : Dk} (h : RfX w g C D) (k : Kp M w w') (hM : ∀ b ∈ C, b ∉ M) : RfX w' g C D := by
  obtain ⟨pv, G, ov, cv, vs, rfl, h1⟩ := h
  exact ⟨pv, G, ov, cv, vs, rfl, h1.kpd k ⟨hM g (by simp), hM pv (by simp), fun b hb => hM b (by simp [hb])⟩⟩
theorem RfX.new {w w' : World} {g : Nat} {C : List Nat} {D : Dk} (h : RfX w g C D) (hb : Below w.heap.size w w') : RfX w' g C D := h.kpd (M := []) (Kp.of_below hb) (fun _ _ => by simp)
theorem RfX.lt {w : World} {g : Nat} {C : List Nat} {D : Dk} (h : RfX w g C D) : ∀ b ∈ C, b < w.heap.size := by
  obtain ⟨pv, G, ov, cv, vs, rfl, h1⟩ := h
  intro b hb
  simp only [List.cons_append, List.nil_append, List.mem_cons] at hb
  rcases hb with rfl | rfl | hb
  · exact h1.row.lt
  · exact h1.own.lt
  · exact h1.inG b hb
instance (g : Nat) (D : Dk) : Thing (fun w C => RfX w g C D) := ⟨RfX.kpd, RfX.lt⟩
end Go.Proofs.Ytpndhildmfmcgaa
namespace Go.Proofs.Ytpndhildmfmcgaa
open Go Go.RowKit Coup
theorem VsAt.new {w w' : World} {G : List Nat} {vs : List Value} {V : List (List Sec)} (h : VsAt w G vs V) (hb : Below w.heap.size w w') : VsAt w' G vs V := h.kpd (M := []) (Kp.of_below hb) (by simp)
theorem owns_low {w : World} {lo lo' e sz m : Nat} {v : Value} {xs : List Value} (h : ownsAt w lo e sz v m xs) (hl : lo' ≤ lo) : ownsAt w lo' e sz v m xs :=
  ⟨h.1, h.2.imp id fun ⟨g, o, c, cu, e, hb, r⟩ => ⟨g, o, c, cu, e, Nat.le_trans hl hb, r⟩⟩
set_option maxRecDepth 8000 in
theorem rnew29 (n : Nat) (w : World) (h1 : 1 ≤ n) (hn : n ≤ 8192) : Calls Try.prog 29 [.int .i64 (n : Int)].toArray w (Ret fun v w' => ∃ g C, v = .pointer (some ⟨g, 0, none⟩) ∧ RfX w' g C (newD n) ∧ (∀ b ∈ C, w.heap.size ≤ b) ∧ Below w.heap.size w w') := by
  have hB := Below.refl w.heap.size w
  have hml : maxLen = 9223372036854775807 := by decide
  obtain ⟨Z, hzz, hzb, hzl⟩ := zeroSQ
  refine calls_W (fn := Try.f29) (rs := [.tmp 2]) (n := 24) Try.func29 rfl rfl Try.ntmps29 (by kernel_rfl) rfl ?_
  refine W_seq (W_region (WR_val rfl (rn_assign) (WR_nil (thenN (W_seq (W_region ?_))))))
  refine WR_val rfl (rn_built1 (.int .i64 (-1)) [.slice none 0 0, .int .i64 (-1), .bool false] rfl (by kernel_rfl)) ?_
  refine WR_mk rfl (mk_box ([.slice none 0 0, .int .i64 (-1), .bool false]) rfl (fun g6 w6 hg6 hr6 hb6 => ?_))
  have ge_hB_g6 := Nat.le_trans hB.size hg6
  replace hB := hB.acc hb6
  refine WR_val rfl (rn_assign) (WR_nil (thenN (W_seq (W_seq (W_region (WR_val rfl (rn_assign) (WR_nil (thenN (W_block ?_)))))))))
  have hobt : ∃ lo, w6.heap.size = lo := ⟨_, rfl⟩
  obtain ⟨lo, hlo⟩ := hobt
  have hl6 := hr6.lt
  have hlB := hB.size
  refine W_loop (α := Nat) 0 (fun i => [(4, .int .i64 (i : Nat)), (0, .int .i64 (n : Int)), (3, .pointer (some ⟨g6, 0, none⟩))])
    (fun i w' => i ≤ n ∧ (∃ u vs G, row w' g6 [u, .int .i64 (-1), .bool false] 58 ∧ ownsAt w' lo 52 1 u i vs ∧ VsAt w' G vs (List.replicate i [zeroS]) ∧ (∀ b ∈ G, lo ≤ b ∧ b < w'.heap.size ∧ u.ownBlock ≠ some b)) ∧ lo ≤ w'.heap.size ∧ Below w.heap.size w w') (fun i => n - i)
    ⟨rfl, rfl, rfl, rfl⟩ ⟨Nat.zero_le _, ⟨_, [], [], hr6, ownsAt_nil _ _ _ _, ⟨rfl, fun i v hv => by simp at hv⟩, (fun b hb => nomatch hb)⟩, by omega, hB⟩ ?_
  clear hr6 hB
  rintro i f wr ⟨hi, ⟨u, vs, G, hr6, hu, hvs, hG⟩, hlow, hB⟩
  refine W_seq (W_seq (W_region (WR_val rfl (rn_move) (WR_val rfl (rn_move) ?_))))
  refine WR_val rfl (rn_lss rfl rfl) ?_
  refine WR_nil (thenN ?_)
  refine W_ifp rfl (fun hlt => ?_) (fun hlt => ?_)
  ·
   refine W_skip (thenN (W_seq (W_block (W_region (WR_val rfl (rn_move) (WR_val rfl (rn_move) (WR_val rfl (rn_nilCheckP rfl) (WR_val rfl (rn_fieldAddr (off := 0) (by kernel_rfl) rfl) ?_))))))))
   refine WR_val rfl (rn_load rfl (Ld.row1 hr6 (by kernel_rfl) rfl)) ?_
   refine WR_val rfl (rn_zeroed (bv Z) (by rw [← hzb]; kernel_rfl)) ?_
   have hu0 : ∀ b, u.ownBlock = some b → b < wr.heap.size := fun b e => (hu.lt b e).2
   refine WR_mk rfl (mk_one (e := 34) (.agg (bv Z).toArray) (bv Z) (List.replicate 128 (Value.int .u8 0)) 128 (by kernel_rfl) (by kernel_rfl) rfl rfl (by first | rfl | (simp; done) | (simp [bv_length, *]; done)) ⟨by decide, by decide⟩ (fun g18 w18 hg18 hr18 hb18 => ?_))
   have ge_hB_g18 := Nat.le_trans hB.size hg18
   have lt_g6_g18 : g6 < g18 := Nat.lt_of_lt_of_le hr6.lt hg18
   replace hr6 := hr6.new hb18
   replace hu := hu.new hb18
   replace hvs := hvs.new hb18
   replace hB := hB.acc hb18
   refine WR_mk rfl (mk_one (e := 52) (.slice (some ⟨g18, 0, none⟩) 1 1) ([.slice (some ⟨g18, 0, none⟩) 1 1]) ([Value.slice none 0 0]) 1 (by kernel_rfl) (by kernel_rfl) rfl rfl rfl ⟨by decide, by decide⟩ (fun g19 w19 hg19 hr19 hb19 => ?_))
   have ge_hB_g19 := Nat.le_trans hB.size hg19
   have lt_g6_g19 : g6 < g19 := Nat.lt_of_lt_of_le hr6.lt hg19
   have lt_g18_g19 : g18 < g19 := Nat.lt_of_lt_of_le hr18.lt hg19
   replace hr6 := hr6.new hb19
   replace hu := hu.new hb19
   replace hvs := hvs.new hb19
   replace hr18 := hr18.new hb19
   replace hB := hB.acc hb19
   have hs19 := hr19.slA (m := 1) (sz := 1) rfl (by omega)
   have hs18 := hr18.slA (m := 1) (sz := 128) hzl (by omega)
   have l18 := hr18.lt
   have l6 := hr6.lt
   have l0 : lo ≤ g18 := by omega
   have hgB : g6 < lo := by omega
   have sz_hB_20 := hB.size
   refine WR_mk rfl (mk_append (e := 52) (sz := 1) (bytes := 24) (z := Value.slice none 0 0) (by kernel_rfl) rfl (by kernel_rfl) rfl (by decide) rfl hu rfl hs19 (by simp [Value.oneCell']) (by unfold maxLen; omega) (by omega) (fun hm0 => by omega) (fun v20 w20 hv20 hgr20 hfr20 => ?_))
   replace hr6 := hr6.own hu hgr20 (by omega)
   replace hB := hB.own hu hgr20 (by omega)
   have kG : Kp u.ownBlock.toList w19 w20 := Kp.of_grown hgr20
   have hfr : ∀ b, v20.ownBlock = some b → u.ownBlock = some b ∨ w19.heap.size ≤ b := hfr20
   have hsz20 := kG.size
   have hform := hv20.form
   obtain ⟨p20, c20, rfl⟩ := hform
   replace hvs := hvs.kpd kG (fun b hb e => (hG b hb).2.2 (Option.mem_toList.1 e))
   replace hs18 := hs18.kpd kG (fun b o e hm => by have h3 := hu0 b (Option.mem_toList.1 hm); cases e; omega)
   refine WR_val rfl (rn_nilCheckP rfl) (WR_val rfl (rn_fieldAddr (off := 0) (by kernel_rfl) rfl) ?_)
   refine WR_sk rfl (sk_store1 rfl rfl rfl rfl hr6 (by kernel_rfl) (by first | (simp only [List.length_replicate]; omega) | (simp only [iv_length]; omega) | (simp only [bv_length, List.length_set]; omega) | simp) (fun w901 hr6 ho901 => ?_))
   replace hv20 := hv20.only ho901 (by omega)
   replace hB := ho901.below hB ge_hB_g6
   refine WR_nil (blockN (thenN (W_region (WR_val rfl (rn_move) ?_))))
   refine WR_val rfl (rn_add rfl rfl (Coup.w64 (by omega))) ?_
   refine WR_val rfl (rn_assign) (WR_nil ?_)
   have hne18 : ∀ b ∈ g18 :: G, b ∉ [g6] := fun b hb hm => by
     have h3 : b = g6 := by simpa using hm
     rcases List.mem_cons.1 hb with h2 | h2
     · omega
     · have := hG b h2; omega
   have hvs2 := (hvs.weak (G' := g18 :: G) (fun b hb => List.mem_cons_of_mem _ hb)).push (v := [Z]) (c := 1) (by simpa using hs18) (fun b o e => by cases e; simp)
   have hvs3 := hvs2.kpd (Kp.of_only ho901) hne18
   have hszO := (Kp.of_only ho901).size
   have e1 : List.replicate (i + 1) [zeroS] = List.replicate i [zeroS] ++ [[Z]] := by rw [List.replicate_succ', hzz]
   refine loopN ⟨i + 1, by omega, ⟨by go_num, rfl, rfl, rfl⟩, by omega, ⟨_, _, g18 :: G, hr6, hv20, by rw [e1]; exact hvs3, fun b hb => ?_⟩, by omega, hB⟩
   have hcl : ∀ x, u.ownBlock ≠ some x ∨ x = g18 → True := fun _ _ => trivial
   rcases List.mem_cons.1 hb with h2 | h2
   · subst h2
     refine ⟨l0, by omega, fun e => ?_⟩
     rcases hfr _ e with h3 | h3
     · have := hu0 _ h3; omega
     · omega
   · have h4 := hG b h2
     refine ⟨h4.1, by omega, fun e => ?_⟩
     rcases hfr _ e with h3 | h3
     · exact h4.2.2 h3
     · omega
  ·
   obtain rfl : i = n := by omega
   have hobt := hu.form' (by omega)
   obtain ⟨pv, ov, cv, rfl, hlp, hpl, hcc⟩ := hobt
   refine W_exit (thenX (loopX (blockX (thenN (W_seq (W_region (WR_val rfl (rn_move) (WR_val rfl (rn_assign) (WR_nil (thenN (W_ret ?_)))))))))))
   refine ret_ret [_] ⟨rfl, trivial⟩ ?_
   have hlen := newD_len i
   refine ⟨g6, [g6, pv] ++ G, rfl, ⟨pv, G, ov, cv, vs, rfl, by rw [hlen]; exact hr6, by rw [hlen]; exact owns_low hu (Nat.zero_le _), hvs, fun b hb => (hG b hb).2.1, ⟨by omega, fun b hb => ⟨by have := (hG b hb).1; omega, fun e => (hG b hb).2.2 (by rw [e]; rfl)⟩⟩, ⟨by show (-1 : Int) ≤ -1; omega, by show (-1 : Int) ≤ _; omega⟩, newD_ok hn, by omega⟩, fun b hb => ?_, hB⟩
   rcases List.mem_append.1 hb with h2 | h2
   · have : b = g6 ∨ b = pv := by simpa using h2
     omega
   · have := (hG b h2).1; omega
end Go.Proofs.Ytpndhildmfmcgaa
namespace Go.Proofs.Ytpndhildmfmcgaa
open Go Go.RowKit Coup
theorem last_at {v : List Sec} (h : v ≠ []) : v[v.length - 1]? = some (lastS v) := by
  rcases List.eq_nil_or_concat v with rfl | ⟨l, s, rfl⟩
  · exact absurd rfl h
  · rw [List.concat_eq_append, lastS, List.getLastD_concat]
    simp
set_option maxRecDepth 8000 in
theorem rread26 {w : World} {g pv : Nat} {G : List Nat} {D : Dk} {ov cv : Nat} {vs : List Value} (h : RfM w g pv G D ov cv vs) (i : Nat) (hi : i < D.V.length) :
    Calls Try.prog 26 [.pointer (some ⟨g, 0, none⟩), .int .i64 (i : Int)].toArray w (Ret fun v w' => v = .agg (bv (readD D i)).toArray ∧ Below w.heap.size w w') := by
  have hB := Below.refl w.heap.size w
  have hr := h.row
  have hown := h.own
  have hv := ver_ok h.ok hi
  have hn8 := h.ok.n
  have hvp := List.length_pos_iff.2 hv.1
  have hvl := hv.2.2
  have hla := last_at hv.1
  obtain ⟨S, hS⟩ : ∃ S, readD D i = S := ⟨_, rfl⟩
  have hSl : (bv S).length = 128 := by rw [bv_length, ← hS]; exact lastS_ok hv.2.1
  rw [show lastS (ver D i) = S from hS] at hla
  rw [hS]
  obtain ⟨p, c, hvi, hsl, hG⟩ := h.vs.2 i _ (ver_at hi)
  obtain ⟨gp, op, rfl, hgp⟩ := hsl.some (by omega)
  obtain ⟨Z, hzz, hzb, hzl⟩ := zeroSQ
  refine calls_W (fn := Try.f26) (rs := [.cell 4 34]) (n := 23) Try.func26 rfl rfl Try.ntmps26 (by kernel_rfl) rfl ?_
  refine W_seq (W_region ?_)
  refine WR_mk rfl (mk_alloc (List.replicate 128 (Value.int .u8 0)) (by kernel_rfl) (fun g4 w4 hg4 hr4 hb4 => ?_))
  have ge_hB_g4 := Nat.le_trans hB.size hg4
  have lt_g_g4 : g < g4 := Nat.lt_of_lt_of_le hr.lt hg4
  have lt_pv_g4 : pv < g4 := Nat.lt_of_lt_of_le hown.lt hg4
  replace hr := hr.new hb4
  replace hown := hown.new hb4
  replace hsl := hsl.new hb4
  replace hB := hB.acc hb4
  rw [hzb] at hr4
  refine WR_nil (thenN (W_seq ?_))
  refine W_draw' [g4] (by kernel_rfl) ?_
  intro w901 hb901 hS901
  replace hr := hr.new hb901
  replace hown := hown.new hb901
  replace hsl := hsl.new hb901
  replace hr4 := hr4.new hb901
  replace hB := hB.acc hb901
  have hr_d901 := hr
  have hown_d901 := hown
  have hsl_d901 := hsl
  have hr4_d901 := hr4
  have hB_d901 := hB
  refine WA_take 0 (by kernel_rfl) rfl (fun _ _ => rn_move) ?_
  refine WA_take 1 (by kernel_rfl) rfl (fun _ _ => rn_nilCheckP rfl) ?_
  refine WA_take 2 (by kernel_rfl) rfl (fun _ _ => rn_fieldAddr (off := 0) (by kernel_rfl) rfl) ?_
  refine WA_take 3 (by kernel_rfl) rfl (fun w' hS' => rn_load rfl (Ld.row1 (hr_d901.kq hS') (by kernel_rfl) rfl)) ?_
  refine WA_take 4 (by kernel_rfl) rfl (fun _ _ => rn_move) ?_
  refine WA_take 5 (by kernel_rfl) rfl (fun _ _ => rn_indexSl1 (e := 52) (by kernel_rfl) rfl rfl (i) (by omega) (by omega)) ?_
  refine WA_take 6 (by kernel_rfl) rfl (fun w' hS' => rn_load rfl (Ld.sl1 (hown_d901.kpd hS' (by first | (simp; done) | (simp; omega) | (simp [*]; done) | exact notLL (Or.inl (by omega)) | exact notLL (Or.inr (by simp)) | exact fun g hm => Nat.le_trans (by omega) (inLL hm).1 | (intro b o e; cases e; exact notLL (Or.inl (by omega))) | (intro b hm; have := (hu.lt b (Option.mem_toList.1 hm)).1; omega) | (intro b o e; cases e; intro hm; have := (hu.lt _ (Option.mem_toList.1 hm)).1; omega))).sl (by kernel_rfl) hvi)) ?_
  refine WA_take 7 (by kernel_rfl) rfl (fun _ _ => rn_move) ?_
  refine WA_take 8 (by kernel_rfl) rfl (fun _ _ => rn_nilCheckP rfl) ?_
  refine WA_take 9 (by kernel_rfl) rfl (fun _ _ => rn_fieldAddr (off := 0) (by kernel_rfl) rfl) ?_
  refine WA_take 10 (by kernel_rfl) rfl (fun w' hS' => rn_load rfl (Ld.row1 (hr_d901.kq hS') (by kernel_rfl) rfl)) ?_
  refine WA_take 11 (by kernel_rfl) rfl (fun _ _ => rn_move) ?_
  refine WA_take 12 (by kernel_rfl) rfl (fun _ _ => rn_indexSl1 (e := 52) (by kernel_rfl) rfl rfl (i) (by omega) (by omega)) ?_
  refine WA_take 13 (by kernel_rfl) rfl (fun w' hS' => rn_load rfl (Ld.sl1 (hown_d901.kpd hS' (by first | (simp; done) | (simp; omega) | (simp [*]; done) | exact notLL (Or.inl (by omega)) | exact notLL (Or.inr (by simp)) | exact fun g hm => Nat.le_trans (by omega) (inLL hm).1 | (intro b o e; cases e; exact notLL (Or.inl (by omega))) | (intro b hm; have := (hu.lt b (Option.mem_toList.1 hm)).1; omega) | (intro b o e; cases e; intro hm; have := (hu.lt _ (Option.mem_toList.1 hm)).1; omega))).sl (by kernel_rfl) hvi)) ?_
  refine WA_take 14 (by kernel_rfl) rfl (fun _ _ => rn_lenSl (e := 34) (sz := 128) (by kernel_rfl) rfl rfl) ?_
  refine WA_take 15 (by kernel_rfl) rfl (fun _ _ => rn_sub rfl rfl (Coup.w64 (by omega))) ?_
  refine WA_take 16 (by kernel_rfl) rfl (fun _ _ => rn_indexSl (e := 34) (sz := 128) (by kernel_rfl) rfl rfl ((ver D i).length - 1) (by omega) (by omega)) ?_
  refine WA_take 17 (by kernel_rfl) rfl (fun w' hS' => rn_load rfl (ld_sec (hsl_d901.kpd hS' (by first | (simp; done) | (simp; omega) | (simp [*]; done) | exact notLL (Or.inl (by omega)) | exact notLL (Or.inr (by simp)) | exact fun g hm => Nat.le_trans (by omega) (inLL hm).1 | (intro b o e; cases e; exact notLL (Or.inl (by omega))) | (intro b hm; have := (hu.lt b (Option.mem_toList.1 hm)).1; omega) | (intro b o e; cases e; intro hm; have := (hu.lt _ (Option.mem_toList.1 hm)).1; omega))) hv.2.1 hla)) ?_
  refine WA_one 18 (by kernel_rfl) ?_
  refine WO_sk rfl rfl (sk_storeA 128 (bv S) rfl rfl hr4 (by kernel_rfl) (by first | assumption | (simp; done) | (simp [bv_length, *]; done)) (by first | assumption | (simp; done) | (simp [bv_length, *]; done) | rfl) (by first | exact bv_one _ | assumption | (simp [Value.oneCell']; done)) (fun w903 hr4 ho903 => ?_))
  have hS902 := hS901.aq ho903
  refine ⟨hS902, ?_⟩
  replace hr := hr.only ho903 (Nat.ne_of_lt lt_g_g4)
  replace hown := hown.only ho903 (Nat.ne_of_lt lt_pv_g4)
  replace hsl := hsl.only ho903 (by omega)
  replace hB := ho903.below hB ge_hB_g4
  refine WA_done (by kernel_rfl) ?_
  refine thenN (W_ret ?_)
  refine ret_ret [_] ⟨⟨_, rfl, Ld.rowA (k := 128) hr4 (by kernel_rfl) (by kernel_rfl) (by first | (simp; done) | (simp [bv_length, *]; done) | assumption)⟩, trivial⟩ ?_
  exact ⟨rfl, hB⟩
set_option maxRecDepth 20000 in
theorem rin30 {w : World} {g pv : Nat} {G : List Nat} {D : Dk} {ov cv : Nat} {vs : List Value} (h : RfM w g pv G D ov cv vs) (i : Int) :
    Calls Try.prog 30 [.pointer (some ⟨g, 0, none⟩), .int .i64 i].toArray w (Ret fun v w' => v = .bool (inD D i) ∧ w = w') := by
  have hr := h.row
  refine calls_W (fn := Try.f30) (rs := [.tmp 4]) (n := 16) Try.func30 rfl rfl Try.ntmps30 (by kernel_rfl) rfl ?_
  refine W_seq (W_region (WR_val rfl (rn_assign) (WR_nil (thenN (W_seq (W_region (WR_val rfl (rn_move) ?_)))))))
  refine WR_val rfl (rn_geq rfl rfl) ?_
  refine WR_val rfl (rn_move) ?_
  refine WR_part 7 rfl (fun h0 => ?_) (fun h0 => ?_)
  ·
   refine WR_yes rfl (WR_val rfl (rn_move) (WR_yes rfl (WR_val rfl (rn_move) (WR_yes rfl (WR_val rfl (rn_nilCheckP rfl) (WR_yes rfl (WR_val rfl (rn_fieldAddr (off := 0) (by kernel_rfl) rfl) (WR_yes rfl ?_))))))))
   refine WR_val rfl (rn_load rfl (Ld.row1 hr (by kernel_rfl) rfl)) ?_
   refine WR_yes rfl ?_
   refine WR_val rfl (rn_lenSl (e := 52) (sz := 1) (by kernel_rfl) rfl rfl) ?_
   refine WR_yes rfl ?_
   refine WR_val rfl (rn_lss rfl rfl) ?_
   refine WR_val rfl (rn_pick_t rfl) (WR_val rfl (rn_assign) (WR_nil (thenN (W_ret ?_))))
   refine ret_ret [_] ⟨rfl, trivial⟩ ?_
   exact ⟨by show Value.bool _ = _; congr 1; unfold inD; by_cases h1 : i < D.V.length <;> simp [h0, h1], rfl⟩
  ·
   refine WR_no rfl rfl (WR_no rfl rfl (WR_no rfl rfl (WR_no rfl rfl (WR_no rfl rfl (WR_no rfl rfl (WR_no rfl rfl (WR_val rfl (rn_pick_f rfl) (WR_val rfl (rn_assign) (WR_nil (thenN (W_ret ?_)))))))))))
   refine ret_ret [_] ⟨rfl, trivial⟩ ?_
   exact ⟨by show Value.bool _ = _; congr 1; unfold inD; rw [decide_eq_false (by omega)], rfl⟩
theorem RfM.turn {w w' : World} {g pv : Nat} {G : List Nat} {D : Dk} {ov cv : Nat} {vs : List Value} (h : RfM w g pv G D ov cv vs) (ho : Only g w w') {left' : Int} {dead' : Bool}
    (hr : Coup.row w' g [.slice (some ⟨pv, ov, none⟩) D.V.length cv, .int .i64 left', .bool dead'] 58) (hl : -1 ≤ left' ∧ left' ≤ 9223372036854775807) : RfM w' g pv G { D with left := left', dead := dead' } ov cv vs := by
  have k := Kp.of_only ho
  exact ⟨hr, h.own.kpd k (by simpa using Ne.symm h.ne.1), h.vs.kpd k fun b hb => by simpa using (h.ne.2 b hb).1, fun b hb => Nat.lt_of_lt_of_le (h.inG b hb) k.size, h.ne, hl, ⟨h.ok.n, h.ok.ne, h.ok.sec, h.ok.short⟩, h.pos⟩
set_option maxRecDepth 20000 in
theorem rstep46 {w : World} {g pv : Nat} {G : List Nat} {D : Dk} {ov cv : Nat} {vs : List Value} (h : RfM w g pv G D ov cv vs) :
    Calls Try.prog 46 [.pointer (some ⟨g, 0, none⟩)].toArray w (Ret fun v w' => v = .bool (stepOk D) ∧ RfM w' g pv G (stepD D) ov cv vs ∧ Only g w w') := by
  have hr := h.row
  have hl := h.left
  refine calls_W (fn := Try.f46) (rs := [.tmp 2]) (n := 27) Try.func46 rfl rfl Try.ntmps46 (by kernel_rfl) rfl ?_
  refine W_seq (W_region (WR_val rfl (rn_assign) (WR_nil (thenN (W_seq (W_seq (W_region (WR_val rfl (rn_move) (WR_val rfl (rn_nilCheckP rfl) (WR_val rfl (rn_fieldAddr (off := 1) (by kernel_rfl) rfl) ?_))))))))))
  refine WR_val rfl (rn_load rfl (Ld.row1 hr (by kernel_rfl) rfl)) ?_
  refine WR_val rfl (rn_eql rfl rfl) ?_
  refine WR_nil (thenN ?_)
  refine W_ifp rfl (fun hz => ?_) (fun hz => ?_)
  ·
   refine W_region (WR_val rfl (rn_move) (WR_val rfl (rn_nilCheckP rfl) (WR_val rfl (rn_fieldAddr (off := 2) (by kernel_rfl) rfl) ?_)))
   refine WR_sk rfl (sk_store1 rfl rfl rfl rfl hr (by kernel_rfl) (by first | (simp only [List.length_replicate]; omega) | (simp only [iv_length]; omega) | (simp only [bv_length, List.length_set]; omega) | simp) (fun w901 hr ho901 => ?_))
   refine WR_nil (thenN (W_seq (W_seq (W_region (WR_val rfl (rn_move) (WR_val rfl (rn_nilCheckP rfl) (WR_val rfl (rn_fieldAddr (off := 2) (by kernel_rfl) rfl) ?_)))))))
   refine WR_val rfl (rn_load rfl (Ld.row1 hr (by kernel_rfl) rfl)) ?_
   refine WR_nil (thenN ?_)
   refine W_tb rfl (rfl) ?_
   refine W_seq (W_region (WR_val rfl (rn_assign) (WR_nil (thenN (W_ret (thenR ?_))))))
   refine ret_ret [_] ⟨rfl, trivial⟩ ?_
   have hs : stepOk D = false := by unfold stepOk; rw [hz]; simp
   refine ⟨by rw [hs]; rfl, ?_, ho901⟩
   have ht := h.turn ho901 (left' := D.left) (dead' := true) hr hl
   rw [stepD, hs]
   exact ht
  ·
   have hnz : D.left ≠ 0 := hz
   refine W_skip (thenN (W_seq (W_seq (W_region (WR_val rfl (rn_move) (WR_val rfl (rn_nilCheckP rfl) (WR_val rfl (rn_fieldAddr (off := 2) (by kernel_rfl) rfl) ?_)))))))
   refine WR_val rfl (rn_load rfl (Ld.row1 hr (by kernel_rfl) rfl)) ?_
   refine WR_nil (thenN ?_)
   refine W_if rfl (fun hd => ?_) (fun hd => ?_)
   ·
    refine W_seq (W_region (WR_val rfl (rn_assign) (WR_nil (thenN (W_ret (thenR ?_))))))
    refine ret_ret [_] ⟨rfl, trivial⟩ ?_
    have hs := stepD_dead hd
    exact ⟨by rw [hs.1]; rfl, by rw [hs.2]; exact h, Only.refl _ _⟩
   ·
    have hs : stepOk D = true := by
      unfold stepOk
      rw [hd]
      simp [hnz]
    refine W_skip (thenN (W_seq (W_seq (W_region (WR_val rfl (rn_move) (WR_val rfl (rn_nilCheckP rfl) (WR_val rfl (rn_fieldAddr (off := 1) (by kernel_rfl) rfl) ?_)))))))
    refine WR_val rfl (rn_load rfl (Ld.row1 hr (by kernel_rfl) rfl)) ?_
    refine WR_val rfl (rn_gtr rfl rfl) ?_
    refine WR_nil (thenN ?_)
    refine W_ifp rfl (fun hgt => ?_) (fun hgt => ?_)
    ·
     refine W_region (WR_val rfl (rn_move) (WR_val rfl (rn_nilCheckP rfl) (WR_val rfl (rn_fieldAddr (off := 1) (by kernel_rfl) rfl) ?_)))
     refine WR_val rfl (rn_load rfl (Ld.row1 hr (by kernel_rfl) rfl)) ?_
     refine WR_val rfl (rn_sub rfl rfl (Coup.w64 (by omega))) ?_
     refine WR_val rfl (rn_nilCheckP rfl) (WR_val rfl (rn_fieldAddr (off := 1) (by kernel_rfl) rfl) ?_)
     refine WR_sk rfl (sk_store1 rfl rfl rfl rfl hr (by kernel_rfl) (by first | (simp only [List.length_replicate]; omega) | (simp only [iv_length]; omega) | (simp only [bv_length, List.length_set]; omega) | simp) (fun w902 hr ho902 => ?_))
     refine WR_nil (thenN (W_seq (W_region (WR_val rfl (rn_assign) (WR_nil (thenN (W_ret ?_)))))))
     refine ret_ret [_] ⟨rfl, trivial⟩ ?_
     refine ⟨by rw [hs]; rfl, ?_, ho902⟩
     have ht := h.turn ho902 (left' := D.left - 1) (dead' := D.dead) hr (by omega)
     rw [stepD, hs, if_pos rfl, if_pos hgt]
     exact ht
    ·
     refine W_skip (thenN (W_seq (W_region (WR_val rfl (rn_assign) (WR_nil (thenN (W_ret ?_)))))))
     refine ret_ret [_] ⟨rfl, trivial⟩ ?_
     refine ⟨by rw [hs]; rfl, ?_, Only.refl _ _⟩
     rw [stepD, hs, if_pos rfl, if_neg hgt]
     exact h
end Go.Proofs.Ytpndhildmfmcgaa
namespace Go.Proofs.Ytpndhildmfmcgaa
open Go Go.RowKit Coup
theorem _root_.Coup.OwnG.own {w w' : World} {base e sz g o m c base' e' sz' k : Nat} {v : Value} {xs ys : List Value} (h : OwnG w base e sz g o m c xs) (ho : ownsAt w base' e' sz' v k ys) (hg : w.grownBy w' v.ownBlock) (hk : g < base') : OwnG w' base e sz g o m c xs :=
  h.kpd (Kp.of_grown hg) fun hm => by
    simp only [Option.mem_toList] at hm
    have := (ho.lt g hm).1
    omega
theorem splice_one (l : List Value) (i : Nat) (v : Value) (h : i < l.length) : splice l i [v] = l.set i v := by
  refine List.ext_getElem? fun j => ?_
  rw [splice_get (by simp only [List.length_singleton]; omega), List.getElem?_set]
  by_cases h1 : i = j
  · subst h1
    rw [if_neg (Nat.lt_irrefl _), if_pos (by simp), if_pos rfl, if_pos h]
    simp
  · rw [if_neg h1]
    by_cases h2 : j < i
    · rw [if_pos h2]
    · rw [if_neg h2, if_neg (by simp; omega)]
theorem rf_set {w w' : World} {g pv : Nat} {G : List Nat} {D : Dk} {ov cv : Nat} {vs : List Value} (h : RfM w g pv G D ov cv vs) (k : Kp [pv] w w') {i : Nat} {v : List Sec} {b o c : Nat} (hi : i < D.V.length)
    (hown : OwnG w' 0 52 1 pv ov D.V.length cv (vs.set i (.slice (some ⟨b, o, none⟩) v.length c))) (hsl : SlAt w' (some ⟨b, o, none⟩) v.length 128 (bv v.flatten)) (hb : b ≠ g ∧ b ≠ pv) (hb' : b < w'.heap.size)
    (h1 : v ≠ []) (h2 : secsOk v) (h3 : v.length ≤ 100000) : RfM w' g pv (b :: G) (setV D i v) ov cv (vs.set i (.slice (some ⟨b, o, none⟩) v.length c)) := by
  have hV : (setV D i v).V.length = D.V.length := List.length_set ..
  have lg := h.row.lt
  have lp := h.own.lt
  have hG : ∀ x ∈ G, x ∉ [pv] := fun x hx => by simpa using (h.ne.2 x hx).2
  refine ⟨by rw [hV]; exact h.row.kpd k (by simpa using h.ne.1), by rw [hV]; exact hown, ?_, fun x hx => ?_, ⟨h.ne.1, fun x hx => ?_⟩, h.left, setV_ok h.ok h1 h2 h3, by rw [hV]; exact h.pos⟩
  · exact ((h.vs.kpd k hG).weak (G' := b :: G) fun x hx => List.mem_cons_of_mem _ hx).set hi hsl fun x o' e => by cases e; simp
  · rcases List.mem_cons.1 hx with rfl | hx
    · exact hb'
    · exact Nat.lt_of_lt_of_le (h.inG x hx) k.size
  · rcases List.mem_cons.1 hx with rfl | hx
    · exact hb
    · exact h.ne.2 x hx
set_option maxRecDepth 8000 in
set_option maxHeartbeats 1000000 in
theorem rwrite32 {w : World} {g pv : Nat} {G : List Nat} {D : Dk} {ov cv : Nat} {vs : List Value} (h : RfM w g pv G D ov cv vs) (i : Nat) (s : Sec) (hi : i < D.V.length) (hs : s.length = 128) (hsh : (ver D i).length < 100000) :
    Calls Try.prog 32 [.pointer (some ⟨g, 0, none⟩), .int .i64 (i : Int), .agg (bv s).toArray].toArray w
      (Ret fun v w' => v = .bool (stepOk D) ∧ (∃ G' vs', RfM w' g pv G' (writeD D i s) ov cv vs' ∧ ∀ b ∈ G', b ∈ G ∨ w.heap.size ≤ b) ∧ Kp [g, pv] w w') := by
  have hml : maxLen = 9223372036854775807 := by decide
  have hK := KpB.refl [g, pv] w
  have hsl128 : (bv s).length = 128 := by rw [bv_length]; exact hs
  obtain ⟨D1, hD1⟩ : ∃ D1, stepD D = D1 := ⟨_, rfl⟩
  obtain ⟨ok, hok⟩ : ∃ ok, stepOk D = ok := ⟨_, rfl⟩
  have hV1 : D1.V = D.V := by rw [← hD1]; exact stepD_V D
  have hver : ver D1 i = ver D i := by unfold ver; rw [hV1]
  rw [writeD, hD1, hok, ← hver]
  rw [← hver] at hsh
  have hlg := h.row.lt
  refine calls_W (fn := Try.f32) (rs := [.tmp 6]) (n := 27) Try.func32 rfl rfl Try.ntmps32 (by kernel_rfl) rfl ?_
  refine W_seq (W_region ?_)
  refine WR_mk rfl (mk_box ((bv s)) rfl (fun g5 w5 hg5 hr5 hb5 => ?_))
  replace hK := hK.new hb5
  have h5 := h.new hb5
  have hst := rstep46 h5
  rw [hD1, hok] at hst
  refine WR_val rfl (rn_assign) (WR_nil (thenN (W_seq (W_seq (W_region (WR_val rfl (rn_move) ?_))))))
  refine WR_ent rfl (rn_call (by kernel_rfl) rfl) (hst) ?_
  rintro _ w8 ⟨rfl, h1, hb8⟩
  replace hK := hK.only hb8 (by first | (simp; done) | (right; omega))
  replace hr5 := hr5.only hb8 (by omega)
  refine WR_val rfl (rn_not rfl) ?_
  refine WR_nil (thenN ?_)
  refine W_ifnb rfl (fun hne => ?_) (fun hne => ?_)
  ·
   refine W_seq (W_region (WR_val rfl (rn_assign) (WR_nil (thenN (W_ret (thenR ?_))))))
   refine ret_ret [_] ⟨rfl, trivial⟩ ?_
   have hk0 : ok = false := by cases ok with | false => rfl | true => simp at hne
   refine ⟨by rw [hk0]; rfl, ⟨G, vs, by rw [hk0]; exact h1, fun b hb => .inl hb⟩, hK.k⟩
  ·
   have hk1 : ok = true := by cases ok with | true => rfl | false => simp at hne
   rw [hk1, if_pos rfl]
   have hi1 : i < D1.V.length := by rw [hV1]; exact hi
   have hr := h1.row
   have hown := h1.own
   have hv := ver_ok h1.ok hi1
   have hn8 := h1.ok.n
   have hvp := List.length_pos_iff.2 hv.1
   have hobt := h1.vs.2 i _ (ver_at hi1)
   obtain ⟨p, c, hvi, hsl, hG⟩ := hobt
   have hobt := hsl.some (by omega)
   obtain ⟨gp, op, rfl, hgp⟩ := hobt
   have hGp := hG gp op rfl
   have hne1 := (h1.ne.2 gp hGp)
   have hgG := h.inG gp hGp
   have hlp := h.own.lt
   have hne0 := h1.ne.1
   have hfl : (ver D1 i).flatten ++ s = (ver D1 i ++ [s]).flatten := by simp
   have hso : secsOk (ver D1 i ++ [s]) := fun x hx => by
     rcases List.mem_append.1 hx with hx | hx
     · exact hv.2.1 x hx
     · rw [List.mem_singleton.1 hx]; exact hs
   have hvln : (ver D1 i ++ [s]).length = (ver D1 i).length + 1 := by simp
   have hX0 := h1
   have hKx := KpB.refl [pv] w8
   have hK8 := hK
   have hO8 := hb8
   refine W_skip (thenN (W_seq ?_))
   refine W_draw' [pv] (by kernel_rfl) ?_
   intro w901 hb901 hS901
   replace hK := hK.new hb901
   replace hr5 := hr5.new hb901
   replace hr := hr.new hb901
   replace hown := hown.new hb901
   replace hsl := hsl.new hb901
   replace hKx := hKx.new hb901
   have hK_d901 := hK
   have hr5_d901 := hr5
   have hr_d901 := hr
   have hown_d901 := hown
   have hsl_d901 := hsl
   have hKx_d901 := hKx
   refine WA_take 0 (by kernel_rfl) rfl (fun _ _ => rn_move) ?_
   refine WA_take 1 (by kernel_rfl) rfl (fun _ _ => rn_nilCheckP rfl) ?_
   refine WA_take 2 (by kernel_rfl) rfl (fun _ _ => rn_fieldAddr (off := 0) (by kernel_rfl) rfl) ?_
   refine WA_take 3 (by kernel_rfl) rfl (fun w' hS' => rn_load rfl (Ld.row1 (hr_d901.kq hS') (by kernel_rfl) rfl)) ?_
   refine WA_take 4 (by kernel_rfl) rfl (fun _ _ => rn_move) ?_
   refine WA_take 5 (by kernel_rfl) rfl (fun _ _ => rn_move) ?_
   refine WA_take 6 (by kernel_rfl) rfl (fun _ _ => rn_nilCheckP rfl) ?_
   refine WA_take 7 (by kernel_rfl) rfl (fun _ _ => rn_fieldAddr (off := 0) (by kernel_rfl) rfl) ?_
   refine WA_take 8 (by kernel_rfl) rfl (fun w' hS' => rn_load rfl (Ld.row1 (hr_d901.kq hS') (by kernel_rfl) rfl)) ?_
   refine WA_take 9 (by kernel_rfl) rfl (fun _ _ => rn_move) ?_
   refine WA_take 10 (by kernel_rfl) rfl (fun _ _ => rn_indexSl1 (e := 52) (by kernel_rfl) rfl rfl (i) (by omega) (by omega)) ?_
   refine WA_take 13 (by kernel_rfl) rfl (fun w' hS' => rn_load rfl (Ld.rowA (k := 128) (hr5_d901.kq hS') (by kernel_rfl) (by kernel_rfl) (by first | (simp; done) | (simp [bv_length, *]; done) | assumption))) ?_
   refine WA_two 11 14 (by kernel_rfl) ?_ ?_
   ·
    refine WO_val rfl rfl (rn_load rfl (Ld.sl1 hown.sl (by kernel_rfl) hvi)) hS901 ?_
    refine WA_two 12 14 (by kernel_rfl) ?_ ?_
    ·
     have q1 := hK.k.size
     have q2 := hKx.k.size
     have q3 := hr.lt
     have q4 := hown.lt
     have q5 := hS901.size
     have q6 := hown.len
     refine WO_mk rfl rfl (mk_append (e := 34) (sz := 128) (bytes := 128) (z := .agg (List.replicate 128 (Value.int .u8 0)).toArray) (by kernel_rfl) rfl (by kernel_rfl) rfl (by decide) rfl (ownsAt_nil w901 w901.heap.size 34 128) rfl hsl (bv_one _) (by unfold maxLen; omega) (by omega) (fun _ => Nat.le_refl _) (fun v22 w22 hv22 hgr22 hfr22 => ?_))
     have hb22 := below_of_nil hgr22
     have hS903 := hS901.add0 hb22
     refine ⟨hS903, ?_⟩
     replace hK := hK.new hb22
     replace hr5 := hr5.new hb22
     replace hr := hr.new hb22
     replace hown := hown.new hb22
     replace hsl := hsl.new hb22
     replace hKx := hKx.new hb22
     refine WA_one 14 (by kernel_rfl) ?_
     refine WO_mk rfl rfl (mk_one (e := 34) (.agg (bv s).toArray) (bv s) (List.replicate 128 (Value.int .u8 0)) 128 (by kernel_rfl) (by kernel_rfl) rfl rfl (by first | rfl | (simp; done) | (simp [bv_length, *]; done)) ⟨by decide, by decide⟩ (fun g24 w24 hg24 hr24 hb24 => ?_))
     have hS904 := hS903.add0 hb24
     refine ⟨hS904, ?_⟩
     have ge_hS903_g24 := Nat.le_trans hS903.size hg24
     have lt_g5_g24 : g5 < g24 := Nat.lt_of_lt_of_le hr5.lt hg24
     have lt_g_g24 : g < g24 := Nat.lt_of_lt_of_le hr.lt hg24
     have lt_pv_g24 : pv < g24 := Nat.lt_of_lt_of_le hown.lt hg24
     replace hK := hK.new hb24
     replace hr5 := hr5.new hb24
     replace hr := hr.new hb24
     replace hown := hown.new hb24
     replace hsl := hsl.new hb24
     replace hKx := hKx.new hb24
     replace hv22 := hv22.new hb24
     refine WA_one 15 (by kernel_rfl) ?_
     have hs24 := hr24.slA (m := 1) (sz := 128) hsl128 (by omega)
     refine WO_mk rfl rfl (mk_append (e := 34) (sz := 128) (bytes := 128) (z := .agg (List.replicate 128 (Value.int .u8 0)).toArray) (by kernel_rfl) rfl (by kernel_rfl) rfl (by decide) rfl hv22 rfl hs24 (bv_one _) (by unfold maxLen; omega) (by omega) (fun hm0 => by omega) (fun v25 w25 hv25 hgr25 hfr25 => ?_))
     have hS905 := hS904.add (Kp.of_grown hgr25) (fun g hm => by first | exact Or.inr hm | exact Or.inr (List.mem_cons_of_mem _ hm) | (have := (hv22.lt g (Option.mem_toList.1 hm)).1; left; omega) | exact (hfr22 g (Option.mem_toList.1 hm)).elim (fun e => Or.inr (Option.mem_toList.2 e)) (fun e => Or.inl (by omega)) | exact (hfr22 g (Option.mem_toList.1 hm)).elim (fun e => Or.inr (List.mem_cons_of_mem _ (Option.mem_toList.2 e))) (fun e => Or.inl (by omega)))
     refine ⟨hS905, ?_⟩
     replace hK := hK.own hv22 hgr25 (by omega)
     replace hr := hr.own hv22 hgr25 (by omega)
     replace hown := hown.own hv22 hgr25 (by omega)
     replace hKx := hKx.own hv22 hgr25 (by omega)
     have hobt := hv25.form' (by omega)
     obtain ⟨gn, on, cn, rfl, hgn, hln, hcn⟩ := hobt
     have hsn := hv25.sl
     rw [List.nil_append, ← bv_append, hfl, Nat.zero_add, ← hvln] at hsn
     refine WA_take 16 (by kernel_rfl) rfl (fun _ _ => rn_indexSl1 (e := 52) (by kernel_rfl) rfl rfl (i) (by omega) (by omega)) ?_
     refine WA_one 17 (by kernel_rfl) ?_
     refine WO_sk rfl rfl (sk_storeO ([.slice (some ⟨gn, on, none⟩) (0 + (ver D1 i).length + 1) cn]) (i) hown rfl rfl (by kernel_rfl) (by first | (simp only [iv_length, List.length_cons, List.length_nil]; omega) | omega | (simp; omega)) (by simp [Value.oneCell']) (fun w907 hown ho907 => ?_))
     have hS906 := hS905.aq ho907
     refine ⟨hS906, ?_⟩
     replace hK := hK.only ho907 (by first | (simp; done) | (right; omega))
     replace hr := hr.only ho907 (by omega)
     replace hKx := hKx.only ho907 (by first | (simp; done) | (right; omega))
     refine WA_done (by kernel_rfl) ?_
     refine thenN (W_seq (W_region (WR_val rfl (rn_assign) (WR_nil (thenN (W_ret ?_))))))
     refine ret_ret [_] ⟨rfl, trivial⟩ ?_
     rw [Nat.zero_add, ← hvln, splice_one _ _ _ (by rw [h1.vs.1]; exact hi1)] at hown
     have hx := rf_set (v := ver D1 i ++ [s]) hX0 hKx.k hi1 hown (hsn.only ho907 (by omega)) ⟨by omega, by omega⟩ (by have := (Kp.of_only ho907).size; omega) (by simp) hso (by rw [hvln]; omega)
     refine ⟨rfl, ⟨_, _, hx, fun b hb => ?_⟩, hK.k⟩
     rcases List.mem_cons.1 hb with rfl | hb
     · right; omega
     · exact .inl hb
    ·
     refine WO_mk rfl rfl (mk_one (e := 34) (.agg (bv s).toArray) (bv s) (List.replicate 128 (Value.int .u8 0)) 128 (by kernel_rfl) (by kernel_rfl) rfl rfl (by first | rfl | (simp; done) | (simp [bv_length, *]; done)) ⟨by decide, by decide⟩ (fun g24 w24 hg24 hr24 hb24 => ?_))
     have hS908 := hS901.add0 hb24
     refine ⟨hS908, ?_⟩
     have ge_hS901_g24 := Nat.le_trans hS901.size hg24
     have lt_g5_g24 : g5 < g24 := Nat.lt_of_lt_of_le hr5.lt hg24
     have lt_g_g24 : g < g24 := Nat.lt_of_lt_of_le hr.lt hg24
     have lt_pv_g24 : pv < g24 := Nat.lt_of_lt_of_le hown.lt hg24
     replace hK := hK.new hb24
     replace hr5 := hr5.new hb24
     replace hr := hr.new hb24
     replace hown := hown.new hb24
     replace hsl := hsl.new hb24
     replace hKx := hKx.new hb24
     refine WA_one 12 (by kernel_rfl) ?_
     have q1 := hK.k.size
     have q2 := hKx.k.size
     have q3 := hr.lt
     have q4 := hown.lt
     have q5 := hS908.size
     have q6 := hown.len
     refine WO_mk rfl rfl (mk_append (e := 34) (sz := 128) (bytes := 128) (z := .agg (List.replicate 128 (Value.int .u8 0)).toArray) (by kernel_rfl) rfl (by kernel_rfl) rfl (by decide) rfl (ownsAt_nil w24 w24.heap.size 34 128) rfl hsl (bv_one _) (by unfold maxLen; omega) (by omega) (fun _ => Nat.le_refl _) (fun v22 w22 hv22 hgr22 hfr22 => ?_))
     have hb22 := below_of_nil hgr22
     have hS909 := hS908.add0 hb22
     refine ⟨hS909, ?_⟩
     replace hK := hK.new hb22
     replace hr5 := hr5.new hb22
     replace hr := hr.new hb22
     replace hown := hown.new hb22
     replace hsl := hsl.new hb22
     replace hKx := hKx.new hb22
     replace hr24 := hr24.new hb22
     refine WA_one 15 (by kernel_rfl) ?_
     have hs24 := hr24.slA (m := 1) (sz := 128) hsl128 (by omega)
     refine WO_mk rfl rfl (mk_append (e := 34) (sz := 128) (bytes := 128) (z := .agg (List.replicate 128 (Value.int .u8 0)).toArray) (by kernel_rfl) rfl (by kernel_rfl) rfl (by decide) rfl hv22 rfl hs24 (bv_one _) (by unfold maxLen; omega) (by omega) (fun hm0 => by omega) (fun v25 w25 hv25 hgr25 hfr25 => ?_))
     have hS910 := hS909.add (Kp.of_grown hgr25) (fun g hm => by first | exact Or.inr hm | exact Or.inr (List.mem_cons_of_mem _ hm) | (have := (hv22.lt g (Option.mem_toList.1 hm)).1; left; omega) | exact (hfr22 g (Option.mem_toList.1 hm)).elim (fun e => Or.inr (Option.mem_toList.2 e)) (fun e => Or.inl (by omega)) | exact (hfr22 g (Option.mem_toList.1 hm)).elim (fun e => Or.inr (List.mem_cons_of_mem _ (Option.mem_toList.2 e))) (fun e => Or.inl (by omega)))
     refine ⟨hS910, ?_⟩
     replace hK := hK.own hv22 hgr25 (by omega)
     replace hr := hr.own hv22 hgr25 (by omega)
     replace hown := hown.own hv22 hgr25 (by omega)
     replace hKx := hKx.own hv22 hgr25 (by omega)
     have hobt := hv25.form' (by omega)
     obtain ⟨gn, on, cn, rfl, hgn, hln, hcn⟩ := hobt
     have hsn := hv25.sl
     rw [List.nil_append, ← bv_append, hfl, Nat.zero_add, ← hvln] at hsn
     refine WA_take 16 (by kernel_rfl) rfl (fun _ _ => rn_indexSl1 (e := 52) (by kernel_rfl) rfl rfl (i) (by omega) (by omega)) ?_
     refine WA_one 17 (by kernel_rfl) ?_
     refine WO_sk rfl rfl (sk_storeO ([.slice (some ⟨gn, on, none⟩) (0 + (ver D1 i).length + 1) cn]) (i) hown rfl rfl (by kernel_rfl) (by first | (simp only [iv_length, List.length_cons, List.length_nil]; omega) | omega | (simp; omega)) (by simp [Value.oneCell']) (fun w912 hown ho912 => ?_))
     have hS911 := hS910.aq ho912
     refine ⟨hS911, ?_⟩
     replace hK := hK.only ho912 (by first | (simp; done) | (right; omega))
     replace hr := hr.only ho912 (by omega)
     replace hKx := hKx.only ho912 (by first | (simp; done) | (right; omega))
     refine WA_done (by kernel_rfl) ?_
     refine thenN (W_seq (W_region (WR_val rfl (rn_assign) (WR_nil (thenN (W_ret ?_))))))
     refine ret_ret [_] ⟨rfl, trivial⟩ ?_
     rw [Nat.zero_add, ← hvln, splice_one _ _ _ (by rw [h1.vs.1]; exact hi1)] at hown
     have hx := rf_set (v := ver D1 i ++ [s]) hX0 hKx.k hi1 hown (hsn.only ho912 (by omega)) ⟨by omega, by omega⟩ (by have := (Kp.of_only ho912).size; omega) (by simp) hso (by rw [hvln]; omega)
     refine ⟨rfl, ⟨_, _, hx, fun b hb => ?_⟩, hK.k⟩
     rcases List.mem_cons.1 hb with rfl | hb
     · right; omega
     · exact .inl hb
   ·
    refine WO_mk rfl rfl (mk_one (e := 34) (.agg (bv s).toArray) (bv s) (List.replicate 128 (Value.int .u8 0)) 128 (by kernel_rfl) (by kernel_rfl) rfl rfl (by first | rfl | (simp; done) | (simp [bv_length, *]; done)) ⟨by decide, by decide⟩ (fun g24 w24 hg24 hr24 hb24 => ?_))
    have hS913 := hS901.add0 hb24
    refine ⟨hS913, ?_⟩
    have ge_hS901_g24 := Nat.le_trans hS901.size hg24
    have lt_g5_g24 : g5 < g24 := Nat.lt_of_lt_of_le hr5.lt hg24
    have lt_g_g24 : g < g24 := Nat.lt_of_lt_of_le hr.lt hg24
    have lt_pv_g24 : pv < g24 := Nat.lt_of_lt_of_le hown.lt hg24
    replace hK := hK.new hb24
    replace hr5 := hr5.new hb24
    replace hr := hr.new hb24
    replace hown := hown.new hb24
    replace hsl := hsl.new hb24
    replace hKx := hKx.new hb24
    refine WA_one 11 (by kernel_rfl) ?_
    refine WO_val rfl rfl (rn_load rfl (Ld.sl1 hown.sl (by kernel_rfl) hvi)) hS913 ?_
    refine WA_one 12 (by kernel_rfl) ?_
    have q1 := hK.k.size
    have q2 := hKx.k.size
    have q3 := hr.lt
    have q4 := hown.lt
    have q5 := hS913.size
    have q6 := hown.len
    refine WO_mk rfl rfl (mk_append (e := 34) (sz := 128) (bytes := 128) (z := .agg (List.replicate 128 (Value.int .u8 0)).toArray) (by kernel_rfl) rfl (by kernel_rfl) rfl (by decide) rfl (ownsAt_nil w24 w24.heap.size 34 128) rfl hsl (bv_one _) (by unfold maxLen; omega) (by omega) (fun _ => Nat.le_refl _) (fun v22 w22 hv22 hgr22 hfr22 => ?_))
    have hb22 := below_of_nil hgr22
    have hS915 := hS913.add0 hb22
    refine ⟨hS915, ?_⟩
    replace hK := hK.new hb22
    replace hr5 := hr5.new hb22
    replace hr := hr.new hb22
    replace hown := hown.new hb22
    replace hsl := hsl.new hb22
    replace hKx := hKx.new hb22
    replace hr24 := hr24.new hb22
    refine WA_one 15 (by kernel_rfl) ?_
    have hs24 := hr24.slA (m := 1) (sz := 128) hsl128 (by omega)
    refine WO_mk rfl rfl (mk_append (e := 34) (sz := 128) (bytes := 128) (z := .agg (List.replicate 128 (Value.int .u8 0)).toArray) (by kernel_rfl) rfl (by kernel_rfl) rfl (by decide) rfl hv22 rfl hs24 (bv_one _) (by unfold maxLen; omega) (by omega) (fun hm0 => by omega) (fun v25 w25 hv25 hgr25 hfr25 => ?_))
    have hS916 := hS915.add (Kp.of_grown hgr25) (fun g hm => by first | exact Or.inr hm | exact Or.inr (List.mem_cons_of_mem _ hm) | (have := (hv22.lt g (Option.mem_toList.1 hm)).1; left; omega) | exact (hfr22 g (Option.mem_toList.1 hm)).elim (fun e => Or.inr (Option.mem_toList.2 e)) (fun e => Or.inl (by omega)) | exact (hfr22 g (Option.mem_toList.1 hm)).elim (fun e => Or.inr (List.mem_cons_of_mem _ (Option.mem_toList.2 e))) (fun e => Or.inl (by omega)))
    refine ⟨hS916, ?_⟩
    replace hK := hK.own hv22 hgr25 (by omega)
    replace hr := hr.own hv22 hgr25 (by omega)
    replace hown := hown.own hv22 hgr25 (by omega)
    replace hKx := hKx.own hv22 hgr25 (by omega)
    have hobt := hv25.form' (by omega)
    obtain ⟨gn, on, cn, rfl, hgn, hln, hcn⟩ := hobt
    have hsn := hv25.sl
    rw [List.nil_append, ← bv_append, hfl, Nat.zero_add, ← hvln] at hsn
    refine WA_take 16 (by kernel_rfl) rfl (fun _ _ => rn_indexSl1 (e := 52) (by kernel_rfl) rfl rfl (i) (by omega) (by omega)) ?_
    refine WA_one 17 (by kernel_rfl) ?_
    refine WO_sk rfl rfl (sk_storeO ([.slice (some ⟨gn, on, none⟩) (0 + (ver D1 i).length + 1) cn]) (i) hown rfl rfl (by kernel_rfl) (by first | (simp only [iv_length, List.length_cons, List.length_nil]; omega) | omega | (simp; omega)) (by simp [Value.oneCell']) (fun w918 hown ho918 => ?_))
    have hS917 := hS916.aq ho918
    refine ⟨hS917, ?_⟩
    replace hK := hK.only ho918 (by first | (simp; done) | (right; omega))
    replace hr := hr.only ho918 (by omega)
    replace hKx := hKx.only ho918 (by first | (simp; done) | (right; omega))
    refine WA_done (by kernel_rfl) ?_
    refine thenN (W_seq (W_region (WR_val rfl (rn_assign) (WR_nil (thenN (W_ret ?_))))))
    refine ret_ret [_] ⟨rfl, trivial⟩ ?_
    rw [Nat.zero_add, ← hvln, splice_one _ _ _ (by rw [h1.vs.1]; exact hi1)] at hown
    have hx := rf_set (v := ver D1 i ++ [s]) hX0 hKx.k hi1 hown (hsn.only ho918 (by omega)) ⟨by omega, by omega⟩ (by have := (Kp.of_only ho918).size; omega) (by simp) hso (by rw [hvln]; omega)
    refine ⟨rfl, ⟨_, _, hx, fun b hb => ?_⟩, hK.k⟩
    rcases List.mem_cons.1 hb with rfl | hb
    · right; omega
    · exact .inl hb
end Go.Proofs.Ytpndhildmfmcgaa
namespace Go.Proofs.Ytpndhildmfmcgaa
open Go Go.RowKit Coup
def flXs (D : Dk) : List (Nat × Sec) := (List.range D.V.length).map fun i => (i, readD D i)
theorem flXs_at {D : Dk} {k : Nat} (h : k < D.V.length) : (flXs D)[k]? = some (k, readD D k) := by
  rw [flXs, List.getElem?_map, List.getElem?_range h]; rfl
theorem flXs_keys (D : Dk) : (flXs D).map (·.1) = List.range D.V.length := by
  rw [flXs, List.map_map]
  show (List.range D.V.length).map (fun i => i) = _
  exact List.map_id' _
theorem flXs_len (D : Dk) : (flXs D).length = D.V.length := by simp [flXs]
theorem flXs_fresh {D : Dk} {k : Nat} (h : k < D.V.length) : ver (setAll D ((flXs D).take k)) k = ver D k := by
  refine ver_setAll _ D k (fun p hp => ?_) fun p hp e => ?_
  · obtain ⟨i, hi, rfl⟩ := List.mem_map.1 (List.mem_of_mem_take hp)
    exact List.mem_range.1 hi
  · obtain ⟨j, hj⟩ := List.getElem?_of_mem hp
    rw [List.getElem?_take] at hj
    split at hj
    · rename_i hjk
      rw [flXs_at (by omega)] at hj
      cases hj
      simp at e
      omega
    · cases hj
theorem flush_all (D : Dk) : setAll D (flXs D) = { D with V := D.V.map fun v => [lastS v] } := by
  have hl := setAll_left D (flXs D)
  refine Dk.ext' (V_ext ?_ fun i hi => ?_) hl.1 hl.2
  · rw [setAll_len]; simp
  · rw [setAll_len] at hi
    have e : ver { D with V := D.V.map fun v => [lastS v] } i = [lastS (ver D i)] := by
      unfold ver
      dsimp only
      rw [List.getD_eq_getElem?_getD, List.getElem?_map, ver_at hi]; rfl
    rw [e]
    refine ver_setAll_mem _ D i _ (fun p hp => ?_) ?_ (List.mem_of_getElem? (flXs_at hi))
    · obtain ⟨i, hi, rfl⟩ := List.mem_map.1 hp
      exact List.mem_range.1 hi
    · rw [flXs_keys]; exact List.nodup_range
set_option maxRecDepth 8000 in
set_option maxHeartbeats 1000000 in
theorem rflush33 {w : World} {g pv : Nat} {G : List Nat} {D : Dk} {ov cv : Nat} {vs : List Value} (h : RfM w g pv G D ov cv vs) :
    Calls Try.prog 33 [.pointer (some ⟨g, 0, none⟩)].toArray w
      (Ret fun v w' => v = .bool (stepOk D) ∧ (∃ G' vs', RfM w' g pv G' (flushD D) ov cv vs' ∧ ∀ b ∈ G', b ∈ G ∨ w.heap.size ≤ b) ∧ Kp [g, pv] w w') := by
  have hst := rstep46 h
  have hK := KpB.refl [g, pv] w
  have hne0 := h.ne.1
  have hml : maxLen = 9223372036854775807 := by decide
  obtain ⟨ok, hok⟩ : ∃ ok, stepOk D = ok := ⟨_, rfl⟩
  obtain ⟨D1, hD1⟩ : ∃ D1, stepD D = D1 := ⟨_, rfl⟩
  have hV1 : D1.V = D.V := by rw [← hD1]; exact stepD_V D
  have hlg := h.row.lt
  have hlp := h.own.lt
  have hn8 := h.ok.n
  rw [← hV1] at hn8
  rw [flushD, ← stepD_V, hD1, ← flush_all D1]
  rw [hok, hD1] at hst
  rw [hok]
  refine calls_W (fn := Try.f33) (rs := [.tmp 2]) (n := 26) Try.func33 rfl rfl Try.ntmps33 (by kernel_rfl) rfl ?_
  refine W_seq (W_region (WR_val rfl (rn_assign) (WR_nil (thenN (W_seq (W_seq (W_region (WR_val rfl (rn_move) ?_))))))))
  refine WR_ent rfl (rn_call (by kernel_rfl) rfl) (hst) ?_
  rintro _ w5 ⟨rfl, h1, hb5⟩
  replace hK := hK.only hb5 (by first | (simp; done) | (right; omega))
  refine WR_val rfl (rn_not rfl) ?_
  refine WR_nil (thenN ?_)
  refine W_ifnb rfl (fun hne => ?_) (fun hne => ?_)
  ·
   refine W_seq (W_region (WR_val rfl (rn_assign) (WR_nil (thenN (W_ret (thenR ?_))))))
   refine ret_ret [_] ⟨rfl, trivial⟩ ?_
   have hk0 : ok = false := by cases ok with | false => rfl | true => simp at hne
   refine ⟨by rw [hk0]; rfl, ⟨G, vs, by rw [hk0]; exact h1, fun b hb => .inl hb⟩, hK.k⟩
  ·
   have hk1 : ok = true := by cases ok with | true => rfl | false => simp at hne
   rw [hk1, if_pos rfl]
   have hobt : ∃ X, flXs D1 = X := ⟨_, rfl⟩
   obtain ⟨X, hX⟩ := hobt
   rw [hX]
   have hXl : X.length = D1.V.length := by rw [← hX, flXs_len]
   refine W_skip (thenN (W_seq (W_seq (W_region (WR_val rfl (rn_assign) (WR_nil (thenN (W_block ?_))))))))
   refine W_loop (α := Nat) 0 (fun k => [(3, .int .i64 (k : Nat)), (0, .pointer (some ⟨g, 0, none⟩))])
     (fun k w' => k ≤ D1.V.length ∧ (∃ G' vs', RfM w' g pv G' (setAll D1 (X.take k)) ov cv vs' ∧ ∀ b ∈ G', b ∈ G ∨ w.heap.size ≤ b) ∧ KpB [g, pv] w w') (fun k => D1.V.length - k)
     ⟨rfl, rfl, rfl⟩ ⟨Nat.zero_le _, ⟨G, vs, h1, fun b hb => .inl hb⟩, hK⟩ ?_
   clear hK
   rintro k f wr ⟨hk, ⟨G', vs', hM, hG'⟩, hK⟩
   have hVl := setAll_len D1 (X.take k)
   have hr := hM.row
   have hown := hM.own
   rw [hVl] at hr hown
   refine W_seq (W_seq (W_region (WR_val rfl (rn_move) (WR_val rfl (rn_move) (WR_val rfl (rn_nilCheckP rfl) (WR_val rfl (rn_fieldAddr (off := 0) (by kernel_rfl) rfl) ?_))))))
   refine WR_val rfl (rn_load rfl (Ld.row1 hr (by kernel_rfl) rfl)) ?_
   refine WR_val rfl (rn_lenSl (e := 52) (sz := 1) (by kernel_rfl) rfl rfl) ?_
   refine WR_val rfl (rn_lss rfl rfl) ?_
   refine WR_nil (thenN ?_)
   refine W_ifp rfl (fun hlt => ?_) (fun hlt => ?_)
   ·
    refine W_skip (thenN (W_seq (W_block ?_)))
    have hXk : X[k]? = some (k, readD D1 k) := by rw [← hX]; exact flXs_at (by omega)
    have hrd : readD (setAll D1 (X.take k)) k = readD D1 k := by rw [readD, ← hX, flXs_fresh (by omega)]; rfl
    have hl128 : (readD D1 k).length = 128 := lastS_ok (ver_ok h1.ok (by omega)).2.1
    have hsn := setAll_snoc D1 X hXk
    have hvl := hM.vs.1
    have q1 := hK.k.size
    have q2 := hr.lt
    have q3 := hown.lt
    have q4 := hown.len
    have hobt : ∃ S, readD D1 k = S := ⟨_, rfl⟩
    obtain ⟨S, hS⟩ := hobt
    rw [hS] at hrd hl128 hsn
    have hS2 : (bv S).length = 128 := by rw [bv_length]; exact hl128
    refine W_draw' [pv] (by kernel_rfl) ?_
    intro w901 hb901 hS901
    replace hK := hK.new hb901
    replace hM := hM.new hb901
    replace hr := hr.new hb901
    replace hown := hown.new hb901
    have hK_d901 := hK
    have hM_d901 := hM
    have hr_d901 := hr
    have hown_d901 := hown
    refine WA_take 0 (by kernel_rfl) rfl (fun _ _ => rn_move) ?_
    refine WA_take 1 (by kernel_rfl) rfl (fun _ _ => rn_nilCheckP rfl) ?_
    refine WA_take 2 (by kernel_rfl) rfl (fun _ _ => rn_fieldAddr (off := 0) (by kernel_rfl) rfl) ?_
    refine WA_take 3 (by kernel_rfl) rfl (fun w' hS' => rn_load rfl (Ld.row1 (hr_d901.kq hS') (by kernel_rfl) rfl)) ?_
    refine WA_take 4 (by kernel_rfl) rfl (fun _ _ => rn_move) ?_
    refine WA_take 5 (by kernel_rfl) rfl (fun _ _ => rn_move) ?_
    refine WA_take 6 (by kernel_rfl) rfl (fun _ _ => rn_move) ?_
    refine WA_one 7 (by kernel_rfl) ?_
    have hrd2 := rread26 hM k (by omega)
    rw [hrd] at hrd2
    refine WO_ent rfl rfl (rn_call (by kernel_rfl) rfl) (hrd2) ?_
    rintro _ w23 ⟨rfl, hb23⟩
    have hS902 := hS901.add0 hb23
    refine ⟨hS902, ?_⟩
    replace hK := hK.new hb23
    replace hM := hM.new hb23
    replace hr := hr.new hb23
    replace hown := hown.new hb23
    refine WA_one 8 (by kernel_rfl) ?_
    have q7 := hK.k.size
    refine WO_mk rfl rfl (mk_one (e := 34) (.agg (bv S).toArray) (bv S) (List.replicate 128 (Value.int .u8 0)) 128 (by kernel_rfl) (by kernel_rfl) rfl rfl (by first | rfl | (simp; done) | (simp [bv_length, *]; done)) ⟨by decide, by decide⟩ (fun g24 w24 hg24 hr24 hb24 => ?_))
    have hS903 := hS902.add0 hb24
    refine ⟨hS903, ?_⟩
    have ge_hS902_g24 := Nat.le_trans hS902.size hg24
    have lt_g_g24 : g < g24 := Nat.lt_of_lt_of_le hr.lt hg24
    have lt_pv_g24 : pv < g24 := Nat.lt_of_lt_of_le hown.lt hg24
    replace hK := hK.new hb24
    replace hM := hM.new hb24
    replace hr := hr.new hb24
    replace hown := hown.new hb24
    refine WA_take 9 (by kernel_rfl) rfl (fun _ _ => rn_indexSl1 (e := 52) (by kernel_rfl) rfl rfl (k) (by omega) (by omega)) ?_
    refine WA_one 10 (by kernel_rfl) ?_
    have hs24 := hr24.slA (m := 1) (sz := 128) hS2 (by omega)
    have hM6 := hM
    have q6 := hr24.lt
    refine WO_sk rfl rfl (sk_storeO ([.slice (some ⟨g24, 0, none⟩) 1 1]) (k) hown rfl rfl (by kernel_rfl) (by first | (simp only [iv_length, List.length_cons, List.length_nil]; omega) | omega | (simp; omega)) (by simp [Value.oneCell']) (fun w905 hown ho905 => ?_))
    have hS904 := hS903.aq ho905
    refine ⟨hS904, ?_⟩
    replace hK := hK.only ho905 (by first | (simp; done) | (right; omega))
    replace hr := hr.only ho905 (by omega)
    replace hr24 := hr24.only ho905 (Nat.ne_of_gt lt_pv_g24)
    refine WA_done (by kernel_rfl) ?_
    refine blockN (thenN (W_region (WR_val rfl (rn_move) ?_)))
    refine WR_val rfl (rn_add rfl rfl (Coup.w64 (by omega))) ?_
    refine WR_val rfl (rn_assign) (WR_nil ?_)
    rw [splice_one _ _ _ (by omega), ← hVl] at hown
    have hx := rf_set (v := [S]) (c := 1) hM6 (Kp.of_only ho905) (by omega) hown ((show SlAt _ _ _ 128 (bv [S].flatten) by simpa using hs24).only ho905 (by omega)) ⟨by omega, by omega⟩ (by have := (Kp.of_only ho905).size; omega) (by simp) (fun x hx => by rw [List.mem_singleton.1 hx]; exact hl128) (by simp)
    dsimp only at hsn
    rw [← hsn] at hx
    refine loopN ⟨k + 1, by omega, ⟨by go_num, rfl, rfl⟩, by omega, ⟨_, _, hx, fun b hb => ?_⟩, hK⟩
    rcases List.mem_cons.1 hb with rfl | hb
    · right; omega
    · exact hG' b hb
   ·
    have hkl : k = D1.V.length := by omega
    rw [hkl, List.take_of_length_le (by omega)] at hM
    refine W_exit (thenX (loopX (blockX (thenN (W_seq (W_region (WR_val rfl (rn_assign) (WR_nil (thenN (W_ret ?_))))))))))
    refine ret_ret [_] ⟨rfl, trivial⟩ ?_
    exact ⟨rfl, ⟨G', vs', hM, hG'⟩, hK.k⟩
def opP (D : Dk) (k : Nat) : List Nat := (List.range k).filter (openB D)
theorem opP_succ (D : Dk) (k : Nat) : opP D (k + 1) = opP D k ++ (if openB D k then [k] else []) := by
  unfold opP
  rw [List.range_succ, List.filter_append]
  by_cases h : openB D k = true
  · rw [if_pos h, List.filter_cons_of_pos h]; rfl
  · rw [if_neg h, List.filter_cons_of_neg h]; rfl
theorem opP_le (D : Dk) (k : Nat) : (opP D k).length ≤ k := Nat.le_trans (List.length_filter_le _ _) (by rw [List.length_range]; exact Nat.le_refl _)
set_option maxRecDepth 8000 in
set_option maxHeartbeats 1000000 in
theorem ropen35 {w : World} {g pv : Nat} {G : List Nat} {D : Dk} {ov cv : Nat} {vs : List Value} (h : RfM w g pv G D ov cv vs) :
    Calls Try.prog 35 [.pointer (some ⟨g, 0, none⟩)].toArray w
      (Ret fun v w' => ∃ p c, v = .slice p (opI D).length c ∧ SlAt w' p (opI D).length 1 (iv (opI D)) ∧ (∀ b o, p = some ⟨b, o, none⟩ → w.heap.size ≤ b) ∧ Below w.heap.size w w') := by
  have hB := Below.refl w.heap.size w
  have hml : maxLen = 9223372036854775807 := by decide
  have hn8 := h.ok.n
  have hlg := h.row.lt
  have hlp := h.own.lt
  refine calls_W (fn := Try.f35) (rs := [.tmp 2]) (n := 28) Try.func35 rfl rfl Try.ntmps35 (by kernel_rfl) rfl ?_
  refine W_seq (W_region (WR_val rfl (rn_assign) (WR_nil (thenN (W_seq (W_region (WR_val rfl (rn_assign) (WR_nil (thenN (W_seq (W_seq ?_)))))))))))
  refine W_region (WR_val rfl (rn_assign) (WR_nil (thenN (W_block ?_))))
  refine W_loop (α := Nat × Value) (0, .slice none 0 0) (fun k => [(4, .int .i64 (k.1 : Nat)), (3, k.2), (0, .pointer (some ⟨g, 0, none⟩))])
    (fun k w' => k.1 ≤ D.V.length ∧ ownsAt w' w.heap.size 3 1 k.2 (opP D k.1).length (iv ((opP D k.1).map (fun i : Nat => (i : Int)))) ∧ Below w.heap.size w w') (fun k => D.V.length - k.1)
    ⟨rfl, rfl, rfl, rfl⟩ ⟨Nat.zero_le _, ownsAt_nil _ _ _ _, hB⟩ ?_
  clear hB
  rintro ⟨k, u⟩ f wr ⟨hk, hu, hB⟩
  dsimp only at hk hu ⊢
  have hM := h.new hB
  have hr := hM.row
  have hown := hM.own
  refine W_seq (W_seq (W_region (WR_val rfl (rn_move) (WR_val rfl (rn_move) (WR_val rfl (rn_nilCheckP rfl) (WR_val rfl (rn_fieldAddr (off := 0) (by kernel_rfl) rfl) ?_))))))
  refine WR_val rfl (rn_load rfl (Ld.row1 hr (by kernel_rfl) rfl)) ?_
  refine WR_val rfl (rn_lenSl (e := 52) (sz := 1) (by kernel_rfl) rfl rfl) ?_
  refine WR_val rfl (rn_lss rfl rfl) ?_
  refine WR_nil (thenN ?_)
  refine W_ifp rfl (fun hlt => ?_) (fun hlt => ?_)
  ·
   refine W_skip (thenN (W_seq (W_block (W_seq ?_))))
   have hobt := hM.vs.2 k _ (ver_at (by omega))
   obtain ⟨p, c, hvi, hsl, hG⟩ := hobt
   have hvl := (ver_ok h.ok (i := k) (by omega)).2.2
   refine W_region (WR_val rfl (rn_move) (WR_val rfl (rn_nilCheckP rfl) (WR_val rfl (rn_fieldAddr (off := 0) (by kernel_rfl) rfl) ?_)))
   refine WR_val rfl (rn_load rfl (Ld.row1 hr (by kernel_rfl) rfl)) ?_
   refine WR_val rfl (rn_move) ?_
   refine WR_val rfl (rn_indexSl1 (e := 52) (by kernel_rfl) rfl rfl (k) (by omega) (by omega)) ?_
   refine WR_val rfl (rn_load rfl (Ld.sl1 hown.sl (by kernel_rfl) hvi)) ?_
   refine WR_val rfl (rn_lenSl (e := 34) (sz := 128) (by kernel_rfl) rfl rfl) ?_
   refine WR_val rfl (rn_gtr rfl rfl) ?_
   refine WR_nil (thenN ?_)
   refine W_ifp rfl (fun hop => ?_) (fun hop => ?_)
   ·
    refine W_region (WR_val rfl (rn_move) (WR_val rfl (rn_move) ?_))
    refine WR_mk rfl (mk_one (e := 3) (.int .i64 (k : Nat)) ([.int .i64 (k : Nat)]) ([Value.int .i64 0]) 1 (by kernel_rfl) (by kernel_rfl) rfl rfl rfl ⟨by decide, by decide⟩ (fun g25 w25 hg25 hr25 hb25 => ?_))
    have ge_hB_g25 := Nat.le_trans hB.size hg25
    have lt_g_g25 : g < g25 := Nat.lt_of_lt_of_le hr.lt hg25
    have lt_pv_g25 : pv < g25 := Nat.lt_of_lt_of_le hown.lt hg25
    replace hr := hr.new hb25
    replace hown := hown.new hb25
    replace hu := hu.new hb25
    replace hB := hB.acc hb25
    have hs25 := hr25.slA (m := 1) (sz := 1) rfl (by omega)
    have hle := opP_le D k
    have sz_hB_26 := hB.size
    refine WR_mk rfl (mk_append (e := 3) (sz := 1) (bytes := 8) (z := Value.int .i64 0) (by kernel_rfl) rfl (by kernel_rfl) rfl (by decide) rfl hu rfl hs25 (by simp [Value.oneCell']) (by unfold maxLen; omega) (by omega) (fun hm0 => by omega) (fun v26 w26 hv26 hgr26 hfr26 => ?_))
    replace hB := hB.own hu hgr26 (by omega)
    refine WR_val rfl (rn_assign) (WR_nil (blockN (thenN (W_region (WR_val rfl (rn_move) ?_)))))
    refine WR_val rfl (rn_add rfl rfl (Coup.w64 (by omega))) ?_
    refine WR_val rfl (rn_assign) (WR_nil ?_)
    have e : opP D (k + 1) = opP D k ++ [k] := by rw [opP_succ, if_pos (by unfold openB; exact decide_eq_true (by omega))]
    refine loopN ⟨(k + 1, v26), by omega, ⟨by go_num, rfl, rfl, rfl⟩, by omega, ?_, hB⟩
    rw [e, List.map_append, iv_append, List.length_append]
    exact hv26
   ·
    have e : opP D (k + 1) = opP D k := by rw [opP_succ, if_neg (by unfold openB; simp; omega), List.append_nil]
    refine W_skip (blockN (thenN (W_region (WR_val rfl (rn_move) ?_))))
    refine WR_val rfl (rn_add rfl rfl (Coup.w64 (by omega))) ?_
    refine WR_val rfl (rn_assign) (WR_nil ?_)
    refine loopN ⟨(k + 1, u), by omega, ⟨by go_num, rfl, rfl, rfl⟩, by omega, ?_, hB⟩
    rw [e]
    exact hu
  ·
   have hkl : k = D.V.length := by omega
   have e : opP D k = opN D := by rw [hkl]; rfl
   rw [e] at hu
   refine W_exit (thenX (loopX (blockX (thenN (W_seq (W_region (WR_val rfl (rn_move) (WR_val rfl (rn_assign) (WR_nil (thenN (W_ret ?_)))))))))))
   refine ret_ret [_] ⟨rfl, trivial⟩ ?_
   obtain ⟨p, c, rfl⟩ := hu.form
   have hol := opI_len D
   exact ⟨p, c, by rw [hol]; rfl, by rw [hol]; exact hu.sl, fun b o e => by rw [e] at hu; exact (hu.lt b rfl).1, hB⟩
end Go.Proofs.Ytpndhildmfmcgaa
namespace Go.Proofs.Ytpndhildmfmcgaa
open Go Go.RowKit Coup
def allS (v : List Sec) : Nat → List Sec
  | 0 => [headS v]
  | k + 1 => allS v k ++ [v.getD (k + 1) zeroS, tornS (v.getD (k + 1) zeroS) (v.getD k zeroS)]
theorem allS_len (v : List Sec) : ∀ k, (allS v k).length = 2 * k + 1
  | 0 => rfl
  | k + 1 => by rw [allS, List.length_append, allS_len v k]; simp; omega
theorem allS_at (v : List Sec) : ∀ (k j : Nat), j < 2 * k + 1 → (allS v k)[j]? = some (leftAt v j)
  | 0, j, h => by
    obtain rfl : j = 0 := by omega
    rfl
  | k + 1, j, h => by
    rw [allS]
    by_cases h1 : j < 2 * k + 1
    · rw [List.getElem?_append_left (by rw [allS_len]; exact h1)]
      exact allS_at v k j h1
    · rw [List.getElem?_append_right (by rw [allS_len]; omega), allS_len]
      by_cases h2 : j = 2 * k + 1
      · rw [h2, Nat.sub_self, leftAt, if_pos (by omega), show (2 * k + 1 + 1) / 2 = k + 1 by omega]; rfl
      · obtain rfl : j = 2 * k + 2 := by omega
        rw [show 2 * k + 2 - (2 * k + 1) = 1 by omega, leftAt, if_neg (by omega), if_neg (by omega), show (2 * k + 2) / 2 = k + 1 by omega, Nat.add_sub_cancel]; rfl
theorem getD_ok {v : List Sec} (h : secsOk v) (j : Nat) : (v.getD j zeroS).length = 128 := by
  rw [List.getD_eq_getElem?_getD]
  cases hj : v[j]? with
  | none => simp [zeroS]
  | some s => exact h s (List.mem_of_getElem? hj)
theorem torn_len {a b : Sec} (ha : a.length = 128) (hb : b.length = 128) : (tornS a b).length = 128 := by
  rw [tornS, List.length_append, List.length_take, List.length_drop]; omega
theorem allS_ok {v : List Sec} (h : secsOk v) : ∀ k, secsOk (allS v k)
  | 0 => fun s hs => by rw [List.mem_singleton.1 hs]; exact headS_ok h
  | k + 1 => fun s hs => by
    rw [allS] at hs
    rcases List.mem_append.1 hs with hs | hs
    · exact allS_ok h k s hs
    · simp only [List.mem_cons, List.not_mem_nil, or_false] at hs
      rcases hs with rfl | rfl
      · exact getD_ok h _
      · exact torn_len (getD_ok h _) (getD_ok h _)
set_option maxRecDepth 8000 in
set_option maxHeartbeats 1000000 in
theorem rleft47 {w : World} {v : List Sec} {p : Option Addr} {c : Nat} (h : SlAt w p v.length 128 (bv v.flatten)) (hv1 : v ≠ []) (hv2 : secsOk v) (hv3 : v.length ≤ 100000) (pick : Int) :
    Calls Try.prog 47 [.slice p v.length c, .int .i64 pick].toArray w (Ret fun u w' => u = .agg (bv (leftS v pick)).toArray ∧ Below w.heap.size w w') := by
  have hB := Below.refl w.heap.size w
  have hml : maxLen = 9223372036854775807 := by decide
  have hpos := List.length_pos_iff.2 hv1
  obtain ⟨g, o, rfl, hlg⟩ := h.some (by omega)
  have hsl := h
  obtain ⟨n, hn⟩ : ∃ n, v.length = n + 1 := ⟨v.length - 1, by omega⟩
  have hh : v[0]? = some (headS v) := by
    obtain ⟨a, l, rfl⟩ := List.exists_cons_of_ne_nil hv1
    rfl
  have hhl := headS_ok hv2
  have hat : ∀ j, j < v.length → v[j]? = some (v.getD j zeroS) := fun j hj => by rw [List.getD_eq_getElem?_getD, List.getElem?_eq_getElem hj]; rfl
  obtain ⟨hk1, hk2, hk3⟩ := pick_mod pick (2 * n + 1) (by omega)
  obtain ⟨k, hkk, hkl⟩ : ∃ k : Nat, pick % ((2 * n + 1 : Nat) : Int) = (k : Int) ∧ k < 2 * n + 1 := by
    have h1 := Int.emod_nonneg pick (show ((2 * n + 1 : Nat) : Int) ≠ 0 by omega)
    have h2 := Int.emod_lt_of_pos pick (show (0 : Int) < ((2 * n + 1 : Nat) : Int) by omega)
    exact ⟨(pick % ((2 * n + 1 : Nat) : Int)).toNat, by omega, by omega⟩
  have hleft : leftS v pick = leftAt v k := by rw [leftS, show 2 * v.length - 1 = 2 * n + 1 by omega, hkk, Int.toNat_natCast]
  rw [hleft]
  rw [hkk] at hk1
  obtain ⟨H, hH⟩ : ∃ H, headS v = H := ⟨_, rfl⟩
  obtain ⟨Z, hzz, hzb, hzl⟩ := zeroSQ
  have hHl : (bv H).length = 128 := by rw [bv_length, ← hH]; exact hhl
  rw [hH] at hh
  refine calls_W (fn := Try.f47) (rs := [.cell 4 34]) (n := 49) Try.func47 rfl rfl Try.ntmps47 (by kernel_rfl) rfl ?_
  refine W_seq (W_region ?_)
  refine WR_mk rfl (mk_alloc (List.replicate 128 (Value.int .u8 0)) (by kernel_rfl) (fun g4 w4 hg4 hr4 hb4 => ?_))
  have ge_hB_g4 := Nat.le_trans hB.size hg4
  replace hsl := hsl.new hb4
  replace hB := hB.acc hb4
  rw [hzb] at hr4
  refine WR_nil (thenN (W_seq (W_region (WR_val rfl (rn_move) ?_))))
  refine WR_val rfl (rn_indexSl (e := 34) (sz := 128) (by kernel_rfl) rfl rfl (0) (by omega) (by omega)) ?_
  refine WR_val rfl (rn_load rfl ((by have := ld_sec hsl hv2 hh; simpa using this))) ?_
  refine WR_mk rfl (mk_one (e := 34) (.agg (bv H).toArray) (bv H) (List.replicate 128 (Value.int .u8 0)) 128 (by kernel_rfl) (by kernel_rfl) rfl rfl (by first | rfl | (simp; done) | (simp [bv_length, *]; done)) ⟨by decide, by decide⟩ (fun g10 w10 hg10 hr10 hb10 => ?_))
  have ge_hB_g10 := Nat.le_trans hB.size hg10
  have lt_g4_g10 : g4 < g10 := Nat.lt_of_lt_of_le hr4.lt hg10
  replace hsl := hsl.new hb10
  replace hr4 := hr4.new hb10
  replace hB := hB.acc hb10
  refine WR_val rfl (rn_assign) (WR_nil (thenN (W_seq (W_seq (W_region (WR_val rfl (rn_assign) (WR_nil (thenN (W_block ?_)))))))))
  have ho0 : ownsAt w10 (g4 + 1) 34 128 (.slice (some ⟨g10, 0, none⟩) 1 1) (2 * 0 + 1) (bv (allS v 0).flatten) := by
    have := hr10.owns (base := g4 + 1) (m := 1) (sz := 128) (by omega) (by omega) (by omega)
    rw [show (allS v 0).flatten = H by rw [← hH]; simp [allS]]
    exact this
  refine W_loop (α := Nat × Value) (0, .slice (some ⟨g10, 0, none⟩) 1 1) (fun k => [(6, .int .i64 ((k.1 + 1 : Nat) : Int)), (5, k.2), (0, .slice (some ⟨g, o, none⟩) v.length c), (1, .int .i64 pick), (4, .pointer (some ⟨g4, 0, none⟩))])
    (fun k w' => k.1 ≤ n ∧ ownsAt w' (g4 + 1) 34 128 k.2 (2 * k.1 + 1) (bv (allS v k.1).flatten) ∧ row w' g4 (bv Z) 34 ∧ Below w.heap.size w w') (fun k => n - k.1)
    ⟨rfl, rfl, rfl, rfl, rfl, rfl⟩ ⟨Nat.zero_le _, ho0, hr4, hB⟩ ?_
  clear ho0 hr4 hB
  rintro ⟨i, u⟩ f wr ⟨hi, hu, hr4, hB⟩
  dsimp only at hi hu ⊢
  have hsl := h.below hB (Nat.le_refl _)
  have hgg : g < g4 + 1 := by omega
  have hgu : u.ownBlock ≠ some g := fun e => by have := (hu.lt g e).1; omega
  refine W_seq (W_seq (W_region (WR_val rfl (rn_move) (WR_val rfl (rn_move) ?_))))
  refine WR_val rfl (rn_lenSl (e := 34) (sz := 128) (by kernel_rfl) rfl rfl) ?_
  refine WR_val rfl (rn_lss rfl rfl) ?_
  refine WR_nil (thenN ?_)
  refine W_ifp rfl (fun hlt => ?_) (fun hlt => ?_)
  ·
   refine W_skip (thenN (W_seq (W_block ?_)))
   have hA := hat (i + 1) (by omega)
   have hA2 := hat i (by omega)
   have hAl := getD_ok hv2 (i + 1)
   have hA2l := getD_ok hv2 i
   have hall : (allS v (i + 1)).flatten = (allS v i).flatten ++ (v.getD (i + 1) zeroS ++ tornS (v.getD (i + 1) zeroS) (v.getD i zeroS)) := by rw [allS, List.flatten_append]; simp
   have hTl := torn_len hAl hA2l
   have hobt : ∃ A, v.getD (i + 1) zeroS = A := ⟨_, rfl⟩
   obtain ⟨A, hAe⟩ := hobt
   have hobt : ∃ A2, v.getD i zeroS = A2 := ⟨_, rfl⟩
   obtain ⟨A2, hA2e⟩ := hobt
   rw [hAe] at hA hAl hall hTl
   rw [hA2e] at hA2 hA2l hall hTl
   have hT := fun w' => torn24 A A2 w' hAl hA2l
   generalize tornS A A2 = T at hT hall hTl
   have hAL : (bv A).length = 128 := by rw [bv_length]; exact hAl
   have hTL : (bv T).length = 128 := by rw [bv_length]; exact hTl
   have q1 := hr4.lt
   refine W_draw' (u.ownBlock.toList) (by kernel_rfl) ?_
   intro w901 hb901 hS901
   replace hsl := hsl.new hb901
   replace hr4 := hr4.new hb901
   replace hu := hu.new hb901
   replace hB := hB.acc hb901
   have hsl_d901 := hsl
   have hr4_d901 := hr4
   have hu_d901 := hu
   have hB_d901 := hB
   refine WA_take 0 (by kernel_rfl) rfl (fun _ _ => rn_move) ?_
   refine WA_take 1 (by kernel_rfl) rfl (fun _ _ => rn_move) ?_
   refine WA_take 2 (by kernel_rfl) rfl (fun _ _ => rn_move) ?_
   refine WA_take 3 (by kernel_rfl) rfl (fun _ _ => rn_indexSl (e := 34) (sz := 128) (by kernel_rfl) rfl rfl (i + 1) (by omega) (by omega)) ?_
   refine WA_take 4 (by kernel_rfl) rfl (fun w' hS' => rn_load rfl (ld_sec (hsl_d901.kpd hS' (by first | (simp; done) | (simp; omega) | (simp [*]; done) | exact notLL (Or.inl (by omega)) | exact notLL (Or.inr (by simp)) | exact fun g hm => Nat.le_trans (by omega) (inLL hm).1 | (intro b o e; cases e; exact notLL (Or.inl (by omega))) | (intro b hm; have := ((hu_d901.kpd hS' (by first | (simp; done) | (simp; omega) | (simp [*]; done) | exact notLL (Or.inl (by omega)) | exact notLL (Or.inr (by simp)) | exact fun g hm => Nat.le_trans (by omega) (inLL hm).1 | (intro b o e; cases e; exact notLL (Or.inl (by omega))) | (intro b hm; have := (hu.lt b (Option.mem_toList.1 hm)).1; omega) | (intro b o e; cases e; intro hm; have := (hu.lt _ (Option.mem_toList.1 hm)).1; omega))).lt b (Option.mem_toList.1 hm)).1; omega) | (intro b o e; cases e; intro hm; have := ((hu_d901.kpd hS' (by first | (simp; done) | (simp; omega) | (simp [*]; done) | exact notLL (Or.inl (by omega)) | exact notLL (Or.inr (by simp)) | exact fun g hm => Nat.le_trans (by omega) (inLL hm).1 | (intro b o e; cases e; exact notLL (Or.inl (by omega))) | (intro b hm; have := (hu.lt b (Option.mem_toList.1 hm)).1; omega) | (intro b o e; cases e; intro hm; have := (hu.lt _ (Option.mem_toList.1 hm)).1; omega))).lt _ (Option.mem_toList.1 hm)).1; omega))) hv2 hA)) ?_
   refine WA_take 7 (by kernel_rfl) rfl (fun _ _ => rn_move) ?_
   refine WA_take 8 (by kernel_rfl) rfl (fun _ _ => rn_move) ?_
   refine WA_take 9 (by kernel_rfl) rfl (fun _ _ => rn_indexSl (e := 34) (sz := 128) (by kernel_rfl) rfl rfl (i + 1) (by omega) (by omega)) ?_
   refine WA_take 10 (by kernel_rfl) rfl (fun w' hS' => rn_load rfl (ld_sec (hsl_d901.kpd hS' (by first | (simp; done) | (simp; omega) | (simp [*]; done) | exact notLL (Or.inl (by omega)) | exact notLL (Or.inr (by simp)) | exact fun g hm => Nat.le_trans (by omega) (inLL hm).1 | (intro b o e; cases e; exact notLL (Or.inl (by omega))) | (intro b hm; have := ((hu_d901.kpd hS' (by first | (simp; done) | (simp; omega) | (simp [*]; done) | exact notLL (Or.inl (by omega)) | exact notLL (Or.inr (by simp)) | exact fun g hm => Nat.le_trans (by omega) (inLL hm).1 | (intro b o e; cases e; exact notLL (Or.inl (by omega))) | (intro b hm; have := (hu.lt b (Option.mem_toList.1 hm)).1; omega) | (intro b o e; cases e; intro hm; have := (hu.lt _ (Option.mem_toList.1 hm)).1; omega))).lt b (Option.mem_toList.1 hm)).1; omega) | (intro b o e; cases e; intro hm; have := ((hu_d901.kpd hS' (by first | (simp; done) | (simp; omega) | (simp [*]; done) | exact notLL (Or.inl (by omega)) | exact notLL (Or.inr (by simp)) | exact fun g hm => Nat.le_trans (by omega) (inLL hm).1 | (intro b o e; cases e; exact notLL (Or.inl (by omega))) | (intro b hm; have := (hu.lt b (Option.mem_toList.1 hm)).1; omega) | (intro b o e; cases e; intro hm; have := (hu.lt _ (Option.mem_toList.1 hm)).1; omega))).lt _ (Option.mem_toList.1 hm)).1; omega))) hv2 hA)) ?_
   refine WA_take 11 (by kernel_rfl) rfl (fun _ _ => rn_move) ?_
   refine WA_take 12 (by kernel_rfl) rfl (fun _ _ => rn_move) ?_
   refine WA_take 13 (by kernel_rfl) rfl (fun _ _ => rn_sub rfl rfl (show IntKind.i64.wrap (((i + 1 : Nat) : Int) - 1) = (i : Int) by rw [w64 (by omega)]; omega)) ?_
   refine WA_take 14 (by kernel_rfl) rfl (fun _ _ => rn_indexSl (e := 34) (sz := 128) (by kernel_rfl) rfl rfl (i) (by omega) (by omega)) ?_
   refine WA_take 15 (by kernel_rfl) rfl (fun w' hS' => rn_load rfl (ld_sec (hsl_d901.kpd hS' (by first | (simp; done) | (simp; omega) | (simp [*]; done) | exact notLL (Or.inl (by omega)) | exact notLL (Or.inr (by simp)) | exact fun g hm => Nat.le_trans (by omega) (inLL hm).1 | (intro b o e; cases e; exact notLL (Or.inl (by omega))) | (intro b hm; have := ((hu_d901.kpd hS' (by first | (simp; done) | (simp; omega) | (simp [*]; done) | exact notLL (Or.inl (by omega)) | exact notLL (Or.inr (by simp)) | exact fun g hm => Nat.le_trans (by omega) (inLL hm).1 | (intro b o e; cases e; exact notLL (Or.inl (by omega))) | (intro b hm; have := (hu.lt b (Option.mem_toList.1 hm)).1; omega) | (intro b o e; cases e; intro hm; have := (hu.lt _ (Option.mem_toList.1 hm)).1; omega))).lt b (Option.mem_toList.1 hm)).1; omega) | (intro b o e; cases e; intro hm; have := ((hu_d901.kpd hS' (by first | (simp; done) | (simp; omega) | (simp [*]; done) | exact notLL (Or.inl (by omega)) | exact notLL (Or.inr (by simp)) | exact fun g hm => Nat.le_trans (by omega) (inLL hm).1 | (intro b o e; cases e; exact notLL (Or.inl (by omega))) | (intro b hm; have := (hu.lt b (Option.mem_toList.1 hm)).1; omega) | (intro b o e; cases e; intro hm; have := (hu.lt _ (Option.mem_toList.1 hm)).1; omega))).lt _ (Option.mem_toList.1 hm)).1; omega))) hv2 hA2)) ?_
   refine WA_one 5 (by kernel_rfl) ?_
   refine WO_mk rfl rfl (mk_one (e := 34) (.agg (bv A).toArray) (bv A) (List.replicate 128 (Value.int .u8 0)) 128 (by kernel_rfl) (by kernel_rfl) rfl rfl (by first | rfl | (simp; done) | (simp [bv_length, *]; done)) ⟨by decide, by decide⟩ (fun g22 w22 hg22 hr22 hb22 => ?_))
   have hS902 := hS901.add0 hb22
   refine ⟨hS902, ?_⟩
   have ge_hS901_g22 := Nat.le_trans hS901.size hg22
   have ge_hB_g22 := Nat.le_trans hB.size hg22
   have lt_g4_g22 : g4 < g22 := Nat.lt_of_lt_of_le hr4.lt hg22
   replace hsl := hsl.new hb22
   replace hr4 := hr4.new hb22
   replace hu := hu.new hb22
   replace hB := hB.acc hb22
   refine WA_one 6 (by kernel_rfl) ?_
   have hs22 := hr22.slA (m := 1) (sz := 128) hAL (by omega)
   have q2 := hS902.size
   have sz_hB_23 := hB.size
   refine WO_mk rfl rfl (mk_append (e := 34) (sz := 128) (bytes := 128) (z := .agg (List.replicate 128 (Value.int .u8 0)).toArray) (by kernel_rfl) rfl (by kernel_rfl) rfl (by decide) rfl hu rfl hs22 (bv_one _) (by unfold maxLen; omega) (by omega) (fun hm0 => by omega) (fun v23 w23 hv23 hgr23 hfr23 => ?_))
   have hS903 := hS902.ownS hu hgr23 (by first | (left; omega) | exact Or.inr (fun _ h => h) | exact Or.inr (fun _ h => List.mem_cons_of_mem _ h))
   refine ⟨hS903, ?_⟩
   replace hsl := hsl.own hu hgr23 (by omega)
   replace hr4 := hr4.own hu hgr23 (by omega)
   replace hB := hB.own hu hgr23 (by omega)
   refine WA_one 16 (by kernel_rfl) ?_
   refine WO_ent rfl rfl (rn_call (by kernel_rfl) rfl) (hT w23) ?_
   rintro _ w33 ⟨rfl, hb33⟩
   have hS904 := hS903.add0 hb33
   refine ⟨hS904, ?_⟩
   replace hsl := hsl.new hb33
   replace hr4 := hr4.new hb33
   replace hv23 := hv23.new hb33
   replace hB := hB.acc hb33
   refine WA_one 17 (by kernel_rfl) ?_
   refine WO_mk rfl rfl (mk_one (e := 34) (.agg (bv T).toArray) (bv T) (List.replicate 128 (Value.int .u8 0)) 128 (by kernel_rfl) (by kernel_rfl) rfl rfl (by first | rfl | (simp; done) | (simp [bv_length, *]; done)) ⟨by decide, by decide⟩ (fun g34 w34 hg34 hr34 hb34 => ?_))
   have hS905 := hS904.add0 hb34
   refine ⟨hS905, ?_⟩
   have ge_hS904_g34 := Nat.le_trans hS904.size hg34
   have ge_hB_g34 := Nat.le_trans hB.size hg34
   have lt_g4_g34 : g4 < g34 := Nat.lt_of_lt_of_le hr4.lt hg34
   replace hsl := hsl.new hb34
   replace hr4 := hr4.new hb34
   replace hv23 := hv23.new hb34
   replace hB := hB.acc hb34
   refine WA_one 18 (by kernel_rfl) ?_
   have hs34 := hr34.slA (m := 1) (sz := 128) hTL (by omega)
   have sz_hB_35 := hB.size
   refine WO_mk rfl rfl (mk_append (e := 34) (sz := 128) (bytes := 128) (z := .agg (List.replicate 128 (Value.int .u8 0)).toArray) (by kernel_rfl) rfl (by kernel_rfl) rfl (by decide) rfl hv23 rfl hs34 (bv_one _) (by unfold maxLen; omega) (by omega) (fun hm0 => by omega) (fun v35 w35 hv35 hgr35 hfr35 => ?_))
   have hS906 := hS905.add (Kp.of_grown hgr35) (fun g hm => by first | exact Or.inr hm | exact Or.inr (List.mem_cons_of_mem _ hm) | (have := (hv23.lt g (Option.mem_toList.1 hm)).1; left; omega) | exact (hfr23 g (Option.mem_toList.1 hm)).elim (fun e => Or.inr (Option.mem_toList.2 e)) (fun e => Or.inl (by omega)) | exact (hfr23 g (Option.mem_toList.1 hm)).elim (fun e => Or.inr (List.mem_cons_of_mem _ (Option.mem_toList.2 e))) (fun e => Or.inl (by omega)))
   refine ⟨hS906, ?_⟩
   replace hsl := hsl.own hv23 hgr35 (by omega)
   replace hr4 := hr4.own hv23 hgr35 (by omega)
   replace hB := hB.own hv23 hgr35 (by omega)
   refine WA_take 19 (by kernel_rfl) rfl (fun _ _ => rn_assign) ?_
   refine WA_done (by kernel_rfl) ?_
   refine blockN (thenN (W_region (WR_val rfl (rn_move) ?_)))
   refine WR_val rfl (rn_add rfl rfl (Coup.w64 (by omega))) ?_
   refine WR_val rfl (rn_assign) (WR_nil ?_)
   rw [List.append_assoc, ← bv_append, ← bv_append, ← hall] at hv35
   refine loopN ⟨(i + 1, v35), by omega, ⟨by go_num, rfl, rfl, rfl, rfl, rfl⟩, by omega, by rw [show 2 * (i + 1) + 1 = 2 * i + 1 + 1 + 1 by omega]; exact hv35, hr4, hB⟩
  ·
   obtain rfl : i = n := by omega
   have hkA := allS_at v i k hkl
   have hks := allS_ok hv2 i
   have hkl2 := leftAt_ok hv2 k
   obtain ⟨p, cu, rfl⟩ := hu.form
   have hul := hu.sl
   have hobt := hul.some (by omega)
   obtain ⟨gu, ou, rfl, hgu2⟩ := hobt
   have hgu3 := (hu.lt gu rfl).1
   have hobt : ∃ L, leftAt v k = L := ⟨_, rfl⟩
   obtain ⟨L, hL⟩ := hobt
   rw [hL] at hkA hkl2
   rw [hL]
   have hLl : (bv L).length = 128 := by rw [bv_length]; exact hkl2
   refine W_exit (thenX (loopX (blockX (thenN (W_seq (W_region (WR_val rfl (rn_move) (WR_val rfl (rn_move) (WR_val rfl (rn_move) ?_)))))))))
   refine WR_val rfl (rn_lenSl (e := 34) (sz := 128) (by kernel_rfl) rfl rfl) ?_
   refine WR_val rfl (rn_rem rfl rfl (by omega) (rfl)) ?_
   refine WR_val rfl (rn_move) ?_
   refine WR_val rfl (rn_lenSl (e := 34) (sz := 128) (by kernel_rfl) rfl rfl) ?_
   refine WR_val rfl (rn_add rfl rfl (Coup.w64 (by omega))) ?_
   refine WR_val rfl (rn_move) ?_
   refine WR_val rfl (rn_lenSl (e := 34) (sz := 128) (by kernel_rfl) rfl rfl) ?_
   refine WR_val rfl (rn_rem rfl rfl (by omega) ((rm (by omega)).trans hk1)) ?_
   refine WR_val rfl (rn_indexSl (e := 34) (sz := 128) (by kernel_rfl) rfl rfl (k) (by omega) (by omega)) ?_
   refine WR_val rfl (rn_load rfl (ld_sec hul hks hkA)) ?_
   refine WR_sk rfl (sk_storeA 128 (bv L) rfl rfl hr4 (by kernel_rfl) (by first | assumption | (simp; done) | (simp [bv_length, *]; done)) (by first | assumption | (simp; done) | (simp [bv_length, *]; done) | rfl) (by first | exact bv_one _ | assumption | (simp [Value.oneCell']; done)) (fun w907 hr4 ho907 => ?_))
   replace hsl := hsl.only ho907 (by omega)
   replace hul := hul.only ho907 (by omega)
   replace hB := ho907.below hB ge_hB_g4
   refine WR_nil (thenN (W_ret ?_))
   refine ret_ret [_] ⟨⟨_, rfl, Ld.rowA (k := 128) hr4 (by kernel_rfl) (by kernel_rfl) (by first | (simp; done) | (simp [bv_length, *]; done) | assumption)⟩, trivial⟩ ?_
   exact ⟨rfl, hB⟩
set_option maxRecDepth 8000 in
set_option maxHeartbeats 1000000 in
theorem rcrash34 {w : World} {g pv : Nat} {G : List Nat} {D : Dk} {ov cv : Nat} {vs : List Value} (h : RfM w g pv G D ov cv vs) (pp : Option Addr) (np cp : Nat) (picks : List Int) (hpk : SlAt w pp np 1 (iv picks)) (hpkb : 0 < np → ∀ b o, pp = some ⟨b, o, none⟩ → b ∉ [g, pv]) :
    Calls Try.prog 34 [.pointer (some ⟨g, 0, none⟩), .slice pp np cp].toArray w
      (Ret fun _ w' => (∃ G' vs', RfM w' g pv G' (crashD D picks) ov cv vs' ∧ ∀ b ∈ G', b ∈ G ∨ w.heap.size ≤ b) ∧ Kp [g, pv] w w') := by
  have hK := KpB.refl [g, pv] w
  have hml : maxLen = 9223372036854775807 := by decide
  have hOp := ropen35 h
  have hoil := opI_len D
  have hlg := h.row.lt
  have hlp := h.own.lt
  have hne0 := h.ne.1
  have hn8 := h.ok.n
  have hnp : np = picks.length := by simpa [iv_length] using hpk.len.symm
  have hoc : (opN D).length ≤ D.V.length := Nat.le_trans (List.length_filter_le _ _) (by rw [List.length_range]; exact Nat.le_refl _)
  rw [crashD]
  obtain ⟨X, hX⟩ : ∃ X, (setXs D fun k i => leftS (ver D i) (picks.getD k 0)) = X := ⟨_, rfl⟩
  rw [hX]
  have hXl : X.length = (opN D).length := by rw [← hX, setXs_len]
  refine calls_W (fn := Try.f34) (rs := []) (n := 51) Try.func34 rfl rfl Try.ntmps34 (by kernel_rfl) rfl ?_
  refine W_seq (W_region (WR_val rfl (rn_move) ?_))
  refine WR_ent rfl (rn_call (by kernel_rfl) rfl) (hOp) ?_
  rintro _ w8 ⟨p, c, rfl, hsl, hpb, hb8⟩
  replace hK := hK.new hb8
  refine WR_val rfl (rn_assign) (WR_nil (thenN (W_seq (W_seq (W_region (WR_val rfl (rn_assign) (WR_nil (thenN (W_block ?_)))))))))
  have hpn : ∀ b o, p = some ⟨b, o, none⟩ → b ∉ [g, pv] := fun b o e hm => by
    have := hpb b o e
    simp only [List.mem_cons, List.not_mem_nil, or_false] at hm
    omega
  have hM0 : RfM w8 g pv G (setAll D (X.take 0)) ov cv vs := h.new (by assumption)
  refine W_loop (α := Nat) 0 (fun k => [(5, .int .i64 (k : Nat)), (4, .slice p (opI D).length c), (0, .pointer (some ⟨g, 0, none⟩)), (1, .slice pp np cp)])
    (fun k w' => k ≤ (opN D).length ∧ (∃ G' vs', RfM w' g pv G' (setAll D (X.take k)) ov cv vs' ∧ ∀ b ∈ G', b ∈ G ∨ w.heap.size ≤ b) ∧ SlAt w' p (opI D).length 1 (iv (opI D)) ∧ KpB [g, pv] w w') (fun k => (opN D).length - k)
    ⟨rfl, rfl, rfl, rfl, rfl⟩ ⟨Nat.zero_le _, ⟨G, vs, hM0, fun b hb => .inl hb⟩, hsl, hK⟩ ?_
  clear hM0 hsl hK
  rintro k f wr ⟨hk, ⟨G', vs', hM, hG'⟩, hsl, hK⟩
  have hVl := setAll_len D (X.take k)
  have hpk2 := hpk.kpd0 hK.k hpkb
  have hr := hM.row
  have hown := hM.own
  rw [hVl] at hr hown
  refine W_seq (W_seq (W_region (WR_val rfl (rn_move) (WR_val rfl (rn_move) ?_))))
  refine WR_val rfl (rn_lenSl (e := 3) (sz := 1) (by kernel_rfl) rfl rfl) ?_
  refine WR_val rfl (rn_lss rfl rfl) ?_
  refine WR_nil (thenN ?_)
  refine W_ifp rfl (fun hlt => ?_) (fun hlt => ?_)
  ·
   refine W_skip (thenN (W_seq (W_block (W_seq (W_region (WR_val rfl (rn_assign) (WR_nil (thenN ?_))))))))
   refine W_cut (fun pk : Int => [(6, .int .i64 pk), (5, .int .i64 (k : Nat)), (4, .slice p (opI D).length c), (0, .pointer (some ⟨g, 0, none⟩)), (1, .slice pp np cp)]) (fun pk w' => pk = picks.getD k 0 ∧ wr = w') ?_ ?_
   ·
    refine W_seq (W_region (WR_val rfl (rn_move) (WR_val rfl (rn_move) ?_)))
    refine WR_val rfl (rn_lenSl (e := 3) (sz := 1) (by kernel_rfl) rfl rfl) ?_
    refine WR_val rfl (rn_lss rfl rfl) ?_
    refine WR_nil (thenN ?_)
    refine W_ifp rfl (fun hkp => ?_) (fun hkp => ?_)
    ·
     have hobt : ∃ pk, picks[k]? = some pk := ⟨_, List.getElem?_eq_getElem (by omega)⟩
     obtain ⟨pk, hpk3⟩ := hobt
     have hobt := hpk2.some (by omega)
     obtain ⟨gq, oq, rfl, hgq⟩ := hobt
     refine W_region (WR_val rfl (rn_move) (WR_val rfl (rn_move) ?_))
     refine WR_val rfl (rn_indexSl1 (e := 3) (by kernel_rfl) rfl rfl (k) (by omega) (by omega)) ?_
     refine WR_val rfl (rn_load rfl (Ld.sl1 hpk2 (by kernel_rfl) (iv_some hpk3))) ?_
     refine WR_val rfl (rn_assign) (WR_nil ?_)
     refine loopN ⟨pk, ⟨rfl, rfl, rfl, rfl, rfl, rfl⟩, by rw [List.getD_eq_getElem?_getD, hpk3]; rfl, rfl⟩
    ·
     refine W_skip ?_
     refine loopN ⟨0, ⟨rfl, rfl, rfl, rfl, rfl, rfl⟩, by rw [List.getD_eq_getElem?_getD, List.getElem?_eq_none (by omega)]; rfl, rfl⟩
   ·
    rintro pk f2 wz ⟨hpkv, rfl⟩
    have hobt := opI_at (D := D) (k := k) (by omega)
    obtain ⟨i, hik, hiv, hil⟩ := hobt
    have hobt := hsl.some (by omega)
    obtain ⟨gp, op, rfl, hgp⟩ := hobt
    have hfr : ver (setAll D (X.take k)) i = ver D i := by rw [← hX, setXs_fresh hik]
    have hv := ver_ok h.ok hil
    have hXk : X[k]? = some (i, leftS (ver D i) pk) := by rw [← hX, hpkv]; exact setXs_at hik
    have hsn := setAll_snoc D X hXk
    have hl128 : (leftS (ver D i) pk).length = 128 := leftS_ok hv.2.1 hv.1 _
    have hpgp := hpn gp op rfl
    have hpg1 : gp ≠ g := fun e => hpgp (by simp [e])
    have hpg2 : gp ≠ pv := fun e => hpgp (by simp [e])
    have hobt := hM.vs.2 i _ (ver_at (by omega))
    obtain ⟨q, cq, hvi, hvs, hGq⟩ := hobt
    rw [hfr] at hvi hvs
    have hvp := List.length_pos_iff.2 hv.1
    have hobt := hvs.some (by omega)
    obtain ⟨gs, os, rfl, hgs⟩ := hobt
    have hq2 := hM.ne.2 gs (hGq gs os rfl)
    have hq3 := hM.vs.1
    have q1 := hK.k.size
    have q2 := hr.lt
    have q3 := hown.lt
    have q4 := hown.len
    have hobt : ∃ S, leftS (ver D i) pk = S := ⟨_, rfl⟩
    obtain ⟨S, hS⟩ := hobt
    have hLf := fun w' (h' : SlAt w' (some ⟨gs, os, none⟩) (ver D i).length 128 (bv (ver D i).flatten)) => rleft47 (c := cq) h' hv.1 hv.2.1 hv.2.2 pk
    rw [hS] at hsn hl128 hLf
    dsimp only at hsn
    have hS2 : (bv S).length = 128 := by rw [bv_length]; exact hl128
    refine W_draw' [pv] (by kernel_rfl) ?_
    intro w901 hb901 hS901
    replace hK := hK.new hb901
    replace hM := hM.new hb901
    replace hr := hr.new hb901
    replace hown := hown.new hb901
    replace hsl := hsl.new hb901
    replace hvs := hvs.new hb901
    have hK_d901 := hK
    have hM_d901 := hM
    have hr_d901 := hr
    have hown_d901 := hown
    have hsl_d901 := hsl
    have hvs_d901 := hvs
    refine WA_take 0 (by kernel_rfl) rfl (fun _ _ => rn_move) ?_
    refine WA_take 1 (by kernel_rfl) rfl (fun _ _ => rn_nilCheckP rfl) ?_
    refine WA_take 2 (by kernel_rfl) rfl (fun _ _ => rn_fieldAddr (off := 0) (by kernel_rfl) rfl) ?_
    refine WA_take 3 (by kernel_rfl) rfl (fun w' hS' => rn_load rfl (Ld.row1 (hr_d901.kq hS') (by kernel_rfl) rfl)) ?_
    refine WA_take 4 (by kernel_rfl) rfl (fun _ _ => rn_move) ?_
    refine WA_take 5 (by kernel_rfl) rfl (fun _ _ => rn_move) ?_
    refine WA_take 6 (by kernel_rfl) rfl (fun _ _ => rn_indexSl1 (e := 3) (by kernel_rfl) rfl rfl (k) (by omega) (by omega)) ?_
    refine WA_take 7 (by kernel_rfl) rfl (fun w' hS' => rn_load rfl (Ld.sl1 (hsl_d901.kpd hS' (by first | (simp; done) | (simp; omega) | (simp [*]; done) | exact notLL (Or.inl (by omega)) | exact notLL (Or.inr (by simp)) | exact fun g hm => Nat.le_trans (by omega) (inLL hm).1 | (intro b o e; cases e; exact notLL (Or.inl (by omega))) | (intro b hm; have := (hu.lt b (Option.mem_toList.1 hm)).1; omega) | (intro b o e; cases e; intro hm; have := (hu.lt _ (Option.mem_toList.1 hm)).1; omega))) (by kernel_rfl) hiv)) ?_
    refine WA_take 8 (by kernel_rfl) rfl (fun _ _ => rn_move) ?_
    refine WA_take 9 (by kernel_rfl) rfl (fun _ _ => rn_nilCheckP rfl) ?_
    refine WA_take 10 (by kernel_rfl) rfl (fun _ _ => rn_fieldAddr (off := 0) (by kernel_rfl) rfl) ?_
    refine WA_take 11 (by kernel_rfl) rfl (fun w' hS' => rn_load rfl (Ld.row1 (hr_d901.kq hS') (by kernel_rfl) rfl)) ?_
    refine WA_take 12 (by kernel_rfl) rfl (fun _ _ => rn_move) ?_
    refine WA_take 13 (by kernel_rfl) rfl (fun _ _ => rn_move) ?_
    refine WA_take 14 (by kernel_rfl) rfl (fun _ _ => rn_indexSl1 (e := 3) (by kernel_rfl) rfl rfl (k) (by omega) (by omega)) ?_
    refine WA_take 15 (by kernel_rfl) rfl (fun w' hS' => rn_load rfl (Ld.sl1 (hsl_d901.kpd hS' (by first | (simp; done) | (simp; omega) | (simp [*]; done) | exact notLL (Or.inl (by omega)) | exact notLL (Or.inr (by simp)) | exact fun g hm => Nat.le_trans (by omega) (inLL hm).1 | (intro b o e; cases e; exact notLL (Or.inl (by omega))) | (intro b hm; have := (hu.lt b (Option.mem_toList.1 hm)).1; omega) | (intro b o e; cases e; intro hm; have := (hu.lt _ (Option.mem_toList.1 hm)).1; omega))) (by kernel_rfl) hiv)) ?_
    refine WA_take 16 (by kernel_rfl) rfl (fun _ _ => rn_indexSl1 (e := 52) (by kernel_rfl) rfl rfl (i) (by omega) (by omega)) ?_
    refine WA_take 18 (by kernel_rfl) rfl (fun _ _ => rn_move) ?_
    refine WA_one 17 (by kernel_rfl) ?_
    refine WO_val rfl rfl (rn_load rfl (Ld.sl1 hown.sl (by kernel_rfl) hvi)) hS901 ?_
    refine WA_one 19 (by kernel_rfl) ?_
    refine WO_ent rfl rfl (rn_call (by kernel_rfl) rfl) (hLf w901 hvs) ?_
    rintro _ w42 ⟨rfl, hb42⟩
    have hS903 := hS901.add0 hb42
    refine ⟨hS903, ?_⟩
    replace hK := hK.new hb42
    replace hM := hM.new hb42
    replace hr := hr.new hb42
    replace hown := hown.new hb42
    replace hsl := hsl.new hb42
    replace hvs := hvs.new hb42
    refine WA_one 20 (by kernel_rfl) ?_
    have q7 := hK.k.size
    refine WO_mk rfl rfl (mk_one (e := 34) (.agg (bv S).toArray) (bv S) (List.replicate 128 (Value.int .u8 0)) 128 (by kernel_rfl) (by kernel_rfl) rfl rfl (by first | rfl | (simp; done) | (simp [bv_length, *]; done)) ⟨by decide, by decide⟩ (fun g43 w43 hg43 hr43 hb43 => ?_))
    have hS904 := hS903.add0 hb43
    refine ⟨hS904, ?_⟩
    have ge_hS903_g43 := Nat.le_trans hS903.size hg43
    have lt_g_g43 : g < g43 := Nat.lt_of_lt_of_le hr.lt hg43
    have lt_pv_g43 : pv < g43 := Nat.lt_of_lt_of_le hown.lt hg43
    replace hK := hK.new hb43
    replace hM := hM.new hb43
    replace hr := hr.new hb43
    replace hown := hown.new hb43
    replace hsl := hsl.new hb43
    replace hvs := hvs.new hb43
    refine WA_take 21 (by kernel_rfl) rfl (fun _ _ => rn_indexSl1 (e := 52) (by kernel_rfl) rfl rfl (i) (by omega) (by omega)) ?_
    refine WA_one 22 (by kernel_rfl) ?_
    have hs43 := hr43.slA (m := 1) (sz := 128) hS2 (by omega)
    have hM6 := hM
    have q6 := hr43.lt
    refine WO_sk rfl rfl (sk_storeO ([.slice (some ⟨g43, 0, none⟩) 1 1]) (i) hown rfl rfl (by kernel_rfl) (by first | (simp only [iv_length, List.length_cons, List.length_nil]; omega) | omega | (simp; omega)) (by simp [Value.oneCell']) (fun w906 hown ho906 => ?_))
    have hS905 := hS904.aq ho906
    refine ⟨hS905, ?_⟩
    replace hK := hK.only ho906 (by first | (simp; done) | (right; omega))
    replace hr := hr.only ho906 (by omega)
    replace hsl := hsl.only ho906 (by omega)
    replace hvs := hvs.only ho906 (by omega)
    replace hr43 := hr43.only ho906 (Nat.ne_of_gt lt_pv_g43)
    refine WA_done (by kernel_rfl) ?_
    refine blockN (thenN (W_region (WR_val rfl (rn_move) ?_)))
    refine WR_val rfl (rn_add rfl rfl (Coup.w64 (by omega))) ?_
    refine WR_val rfl (rn_assign) (WR_nil ?_)
    rw [splice_one _ _ _ (by omega), ← hVl] at hown
    have hx := rf_set (v := [S]) (c := 1) hM6 (Kp.of_only ho906) (by omega) hown ((show SlAt _ _ _ 128 (bv [S].flatten) by simpa using hs43).only ho906 (by omega)) ⟨by omega, by omega⟩ (by have := (Kp.of_only ho906).size; omega) (by simp) (fun x hx => by rw [List.mem_singleton.1 hx]; exact hl128) (by simp)
    rw [← hsn] at hx
    refine loopN ⟨k + 1, by omega, ⟨by go_num, rfl, rfl, rfl, rfl⟩, by omega, ⟨_, _, hx, fun b hb => ?_⟩, hsl, hK⟩
    rcases List.mem_cons.1 hb with rfl | hb
    · right; omega
    · exact hG' b hb
  ·
   have hkl : k = (opN D).length := by omega
   rw [hkl, List.take_of_length_le (by omega)] at hM
   refine W_exit (thenX (loopX (blockX (thenN (W_region (WR_val rfl (rn_move) (WR_val rfl (rn_move) (WR_val rfl (rn_nilCheckP rfl) (WR_val rfl (rn_fieldAddr (off := 1) (by kernel_rfl) rfl) ?_)))))))))
   refine WR_sk rfl (sk_store1 rfl rfl rfl rfl hr (by kernel_rfl) (by first | (simp only [List.length_replicate]; omega) | (simp only [iv_length]; omega) | (simp only [bv_length, List.length_set]; omega) | simp) (fun w907 hr ho907 => ?_))
   replace hK := hK.only ho907 (by first | (simp; done) | (right; omega))
   have ho1 := ho907
   refine WR_val rfl (rn_nilCheckP rfl) (WR_val rfl (rn_fieldAddr (off := 2) (by kernel_rfl) rfl) ?_)
   refine WR_sk rfl (sk_store1 rfl rfl rfl rfl hr (by kernel_rfl) (by first | (simp only [List.length_replicate]; omega) | (simp only [iv_length]; omega) | (simp only [bv_length, List.length_set]; omega) | simp) (fun w908 hr ho908 => ?_))
   replace hK := hK.only ho908 (by first | (simp; done) | (right; omega))
   refine WR_nil ?_
   refine ret_normal [] trivial ?_
   have ho3 := Only.trans ho1 ho908
   have ht := hM.turn ho3 (left' := -1) (dead' := false) (by rw [setAll_len]; exact hr) (by omega)
   exact ⟨⟨G', vs', ht, hG'⟩, hK.k⟩
end Go.Proofs.Ytpndhildmfmcgaa
namespace Go.Proofs.Ytpndhildmfmcgaa
open Go Go.RowKit Coup
abbrev DZ (g : Nat) (D : Dk) : World → List Nat → Prop := fun w B => DkX w g B D
abbrev RZ (g : Nat) (D : Dk) : World → List Nat → Prop := fun w B => RfX w g B D
instance (g : Nat) (D : Dk) : Thing (DZ g D) := ⟨DkX.kpd, DkX.lt⟩
instance (g : Nat) (D : Dk) : Thing (RZ g D) := ⟨RfX.kpd, RfX.lt⟩
section
variable {Y : World → List Nat → Prop} {g lo : Nat} {D : Dk} {w : World}
theorem dzOk (h : Duo (DZ g D) Y lo w) : DkOk D ∧ 0 < D.V.length ∧ lo ≤ g ∧ g < w.heap.size := by
  obtain ⟨B, C, h1, h2, h3, h4⟩ := h
  exact ⟨h1.ok, h1.pos, (h3 g h1.self).1, h1.lt g h1.self⟩
theorem dzLo (h : Duo (DZ g D) Y lo w) : lo ≤ w.heap.size := by
  have := dzOk h
  omega
end
section
variable {Y : World → List Nat → Prop} [Thing Y] {g lo : Nat} {D : Dk} {w : World}
theorem dWrite (h : Duo (DZ g D) Y lo w) (i : Int) (s : Sec) (hs : s.length = 128) (hsh : shortD D 90000) :
    Calls Try.prog 17 [.pointer (some ⟨g, 0, none⟩), .int .i64 i, .agg (bv s).toArray].toArray w (Ret fun v w' => v = .int .i64 (writeE D i) ∧ Duo (DZ g (writeA D i s)) Y lo w' ∧ Below lo w w') :=
  h.left (dzLo h) fun B hX _ => write hX i s hs hsh
theorem dFlush (h : Duo (DZ g D) Y lo w) :
    Calls Try.prog 16 [.pointer (some ⟨g, 0, none⟩)].toArray w (Ret fun v w' => v = .int .i64 (if stepOk D then 0 else 10) ∧ Duo (DZ g (flushD D)) Y lo w' ∧ Below lo w w') :=
  h.left (dzLo h) fun B hX _ => (flush hX).to fun _ _ ⟨h1, h2, h3⟩ => ⟨h1, B, h2, .of_kp h3⟩
def fuseA (D : Dk) (k : Int) : Dk := if 0 ≤ k then { D with left := k } else D
end
section
variable {Y : World → List Nat → Prop} {g lo : Nat} {D : Dk} {w : World}
theorem dRead (h : Duo (DZ g D) Y lo w) (i : Int) : Calls Try.prog 23 [.pointer (some ⟨g, 0, none⟩), .int .i64 i].toArray w (Ret fun v w' => v = .tuple #[.agg (bv (if inD D i then readD D i.toNat else zeroS)).toArray, .int .i64 (if inD D i then 0 else 2)] ∧ Below w.heap.size w w') := by
  obtain ⟨B, C, h1, h2, h3, h4⟩ := h
  exact read h1 i
end
theorem newC {w : World} (n : Nat) (h1 : 1 ≤ n) (h2 : n ≤ 8192) :
    Calls Try.prog 11 [.int .i64 (n : Int)].toArray w (Ret fun v w' => ∃ g B, v = .tuple #[.pointer (some ⟨g, 0, none⟩), .int .i64 0] ∧ DkX w' g B (newD n) ∧ (∀ b ∈ B, w.heap.size ≤ b) ∧ Below w.heap.size w w') :=
  (new11a n h1 h2).to fun v w' ⟨g, pl, m, e, hM, l1, l2, l3, hb⟩ => ⟨g, [g, pl, m] ++ [], e, ⟨pl, m, [], 0, n, 0, false, _, rfl, hM, ⟨fun i hi => absurd hi (by rw [newD_closed]; simp), fun i j b hi => absurd hi (by rw [newD_closed]; simp)⟩⟩, (fun b hb => by
    simp only [List.append_nil, List.mem_cons, List.not_mem_nil, or_false] at hb
    rcases hb with rfl | rfl | rfl <;> assumption), hb⟩
theorem Duo.one {X : World → List Nat → Prop} {w : World} {B : List Nat} {lo : Nat} (h : X w B) (hB : ∀ b ∈ B, lo ≤ b) : Duo X None lo w := ⟨B, [], h, rfl, fun b hb => ⟨hB b hb, by simp⟩, fun b hb => nomatch hb⟩
theorem Duo.add {X Y : World → List Nat → Prop} [hX : Thing X] {w w' : World} {C : List Nat} {lo : Nat} (h : Duo X None lo w) (hl : lo ≤ w.heap.size) (hb : Below w.heap.size w w') (hY : Y w' C) (hC : ∀ b ∈ C, w.heap.size ≤ b) : Duo X Y lo w' := by
  obtain ⟨B, _, h1, rfl, h3, h4⟩ := h
  exact ⟨B, C, hX.kpd h1 (M := []) (Kp.of_below hb) (by simp), hY, fun b hb => ⟨(h3 b hb).1, fun hc => absurd (hX.lt h1 b hb) (Nat.not_lt.2 (hC b hc))⟩, fun b hb => Nat.le_trans hl (hC b hb)⟩
end Go.Proofs.Ytpndhildmfmcgaa
namespace Go.Proofs.Ytpndhildmfmcgaa
open Go Go.RowKit Coup
def SZ (p : Option Addr) (n : Nat) (picks : List Int) : World → List Nat → Prop := fun w C => (∀ b o, p = some ⟨b, o, none⟩ → b ∈ C) ∧ (∀ b ∈ C, b < w.heap.size) ∧ SlAt w p n 1 (iv picks)
instance (p : Option Addr) (n : Nat) (picks : List Int) : Thing (SZ p n picks) :=
  ⟨fun h k hM => ⟨h.1, fun b hb => Nat.lt_of_lt_of_le (h.2.1 b hb) k.size, h.2.2.kpd k fun b o e => hM b (h.1 b o e)⟩, fun h => h.2.1⟩
theorem dCrashP {g lo : Nat} {D : Dk} {w : World} {p : Option Addr} {n cp : Nat} {picks : List Int} (h : Duo (DZ g D) (SZ p n picks) lo w) :
    Calls Try.prog 20 [.pointer (some ⟨g, 0, none⟩), .slice p n cp].toArray w (Ret fun v w' => v = .int .i64 0 ∧ Duo (DZ g (crashD D picks)) (SZ p n picks) lo w' ∧ Below lo w w') := by
  have hl := dzLo h
  have h' := h
  obtain ⟨B, C, h1, h2, h3, h4⟩ := h'
  refine (crash h1 p n cp picks h2.2.2 fun _ b o e hm => (h3 b hm).2 (h2.1 b o e)).to fun v w' ⟨e, h5, h6⟩ => ⟨e, ⟨B, C, h5, ⟨h2.1, fun b hb => Nat.lt_of_lt_of_le (h2.2.1 b hb) h6.size, h2.2.2.kpd h6 fun b o e hm => (h3 b hm).2 (h2.1 b o e)⟩, h3, h4⟩, (Mv.of_kp h6).bel (fun b hb => (h3 b hb).1) hl⟩
theorem Duo.fst {X Y : World → List Nat → Prop} {lo : Nat} {w : World} (h : Duo X Y lo w) : Duo X None lo w := by
  obtain ⟨B, C, h1, h2, h3, h4⟩ := h
  exact ⟨B, [], h1, rfl, fun b hb => ⟨(h3 b hb).1, by simp⟩, fun b hb => nomatch hb⟩
theorem short_of {D : Dk} {k k' : Nat} (h : shortD D k) (hk : k ≤ k') : shortD D k' := fun v hv => Nat.le_trans (h v hv) hk
theorem short_one {v : List Sec} {l : Int} {d : Bool} {k : Nat} (h : v.length ≤ k) : shortD ⟨[v], l, d⟩ k := fun u hu => by rw [List.mem_singleton.1 hu]; exact h
set_option maxRecDepth 8000 in
set_option maxHeartbeats 2000000 in
theorem known10 (w : World) : Calls Try.prog 10 [].toArray w (Ret fun v w' => v = .bool true ∧ Below w.heap.size w w') := by
  have hB := Below.refl w.heap.size w
  have hml : maxLen = 9223372036854775807 := by decide
  have hFx := full28 120
  have hFy := full28 121
  have hFz := full28 122
  have hlx := full_len 120
  have hly := full_len 121
  have hlz := full_len 122
  generalize fullS 120 = X at hFx hlx
  generalize fullS 121 = Y at hFy hly
  generalize fullS 122 = Z at hFz hlz
  have hT := fun w' => torn24 Z Y w' hlz hly
  have hTl : (tornS Z Y).length = 128 := by rw [tornS, List.length_append, List.length_take, List.length_drop]; omega
  have hpl : ∀ i : Nat, i < 2 → ∃ pk S, ([1, 4] : List Int)[i]? = some pk ∧ S.length = 128 ∧ leftS [X, Y, Z] pk = S ∧ [Y, tornS Z Y][i]? = some S := by
    intro i hi
    match i, hi with
    | 0, _ => exact ⟨1, Y, rfl, hly, by simp [leftS, leftAt], rfl⟩
    | 1, _ => exact ⟨4, tornS Z Y, rfl, hTl, by simp [leftS, leftAt], rfl⟩
  generalize tornS Z Y = T at hT hTl hpl
  have hyl : (bv Y).length = 128 := by rw [bv_length]; exact hly
  have htl : (bv T).length = 128 := by rw [bv_length]; exact hTl
  have hW1 : ∀ g lo w', Duo (DZ g (newD 1)) None lo w' → Calls Try.prog 17 [.pointer (some ⟨g, 0, none⟩), .int .i64 0, .agg (bv X).toArray].toArray w' (Ret fun v w2 => v = .int .i64 0 ∧ Duo (DZ g ⟨[[zeroS, X]], -1, false⟩) None lo w2 ∧ Below lo w' w2) := fun g lo w' h => dWrite h 0 X hlx (short_one (by simp))
  have hF1 : ∀ g lo w', Duo (DZ g ⟨[[zeroS, X]], -1, false⟩) None lo w' → Calls Try.prog 16 [.pointer (some ⟨g, 0, none⟩)].toArray w' (Ret fun v w2 => v = .int .i64 0 ∧ Duo (DZ g ⟨[[X]], -1, false⟩) None lo w2 ∧ Below lo w' w2) := fun g lo w' h => dFlush h
  have hW2 : ∀ g lo w', Duo (DZ g ⟨[[X]], -1, false⟩) None lo w' → Calls Try.prog 17 [.pointer (some ⟨g, 0, none⟩), .int .i64 0, .agg (bv Y).toArray].toArray w' (Ret fun v w2 => v = .int .i64 0 ∧ Duo (DZ g ⟨[[X, Y]], -1, false⟩) None lo w2 ∧ Below lo w' w2) := fun g lo w' h => dWrite h 0 Y hly (short_one (by simp))
  have hW3 : ∀ g lo w', Duo (DZ g ⟨[[X, Y]], -1, false⟩) None lo w' → Calls Try.prog 17 [.pointer (some ⟨g, 0, none⟩), .int .i64 0, .agg (bv Z).toArray].toArray w' (Ret fun v w2 => v = .int .i64 0 ∧ Duo (DZ g ⟨[[X, Y, Z]], -1, false⟩) None lo w2 ∧ Below lo w' w2) := fun g lo w' h => dWrite h 0 Z hlz (short_one (by simp))
  have hC : ∀ g lo w' p n cp pk, Duo (DZ g ⟨[[X, Y, Z]], -1, false⟩) (SZ p n [pk]) lo w' → Calls Try.prog 20 [.pointer (some ⟨g, 0, none⟩), .slice p n cp].toArray w' (Ret fun v w2 => v = .int .i64 0 ∧ Duo (DZ g ⟨[[leftS [X, Y, Z] pk]], -1, false⟩) (SZ p n [pk]) lo w2 ∧ Below lo w' w2) := fun g lo w' p n cp pk h => dCrashP h
  have hR : ∀ g lo w' S, Duo (DZ g ⟨[[S]], -1, false⟩) None lo w' → Calls Try.prog 23 [.pointer (some ⟨g, 0, none⟩), .int .i64 0].toArray w' (Ret fun v w2 => v = .tuple #[.agg (bv S).toArray, .int .i64 0] ∧ Below w'.heap.size w' w2) := fun g lo w' S h => dRead h 0
  obtain ⟨Zr, hzz, hzb, hzl⟩ := zeroSQ
  refine calls_W (fn := Try.f10) (rs := [.tmp 0]) (n := 72) Try.func10 rfl rfl Try.ntmps10 (by kernel_rfl) rfl ?_
  refine W_seq (W_region (WR_val rfl (rn_assign) (WR_nil (thenN (W_seq (W_region ?_))))))
  refine WR_mk rfl (mk_two (e := 3) (.int .i64 1) (.int .i64 4) ([.int .i64 1]) ([.int .i64 4]) ([Value.int .i64 0]) 1 (by kernel_rfl) (by kernel_rfl) rfl rfl rfl rfl (by first | rfl | (simp; done) | (simp [bv_length, *]; done)) (by first | rfl | (simp; done) | (simp [bv_length, *]; done)) ⟨by decide, by decide⟩ (fun g8 w8 hg8 hr8 hb8 => ?_))
  have ge_hB_g8 := Nat.le_trans hB.size hg8
  replace hB := hB.acc hb8
  refine WR_val rfl (rn_assign) (WR_nil (thenN (W_seq (W_region ?_))))
  refine WR_ent rfl (rn_call (by kernel_rfl) rfl) (hFy w8) ?_
  rintro _ w9 ⟨rfl, hb9⟩
  replace hr8 := hr8.new hb9
  replace hB := hB.acc hb9
  refine WR_ent rfl (rn_call (by kernel_rfl) rfl) (hFz w9) ?_
  rintro _ w10 ⟨rfl, hb10⟩
  replace hr8 := hr8.new hb10
  replace hB := hB.acc hb10
  refine WR_ent rfl (rn_call (by kernel_rfl) rfl) (hFy w10) ?_
  rintro _ w11 ⟨rfl, hb11⟩
  replace hr8 := hr8.new hb11
  replace hB := hB.acc hb11
  refine WR_ent rfl (rn_call (by kernel_rfl) rfl) (hT w11) ?_
  rintro _ w12 ⟨rfl, hb12⟩
  replace hr8 := hr8.new hb12
  replace hB := hB.acc hb12
  refine WR_mk rfl (mk_two (e := 34) (.agg (bv Y).toArray) (.agg (bv T).toArray) (bv Y) (bv T) (List.replicate 128 (Value.int .u8 0)) 128 (by kernel_rfl) (by kernel_rfl) rfl rfl rfl rfl (by first | rfl | (simp; done) | (simp [bv_length, *]; done)) (by first | rfl | (simp; done) | (simp [bv_length, *]; done)) ⟨by decide, by decide⟩ (fun g13 w13 hg13 hr13 hb13 => ?_))
  have ge_hB_g13 := Nat.le_trans hB.size hg13
  have lt_g8_g13 : g8 < g13 := Nat.lt_of_lt_of_le hr8.lt hg13
  replace hr8 := hr8.new hb13
  replace hB := hB.acc hb13
  refine WR_val rfl (rn_assign) (WR_nil (thenN (W_seq (W_seq (W_region (WR_val rfl (rn_assign) (WR_nil (thenN (W_block ?_)))))))))
  have hr13' : row w13 g13 (bv [Y, T].flatten) 34 := by rw [show [Y, T].flatten = Y ++ T by simp, bv_append]; exact hr13
  refine W_loop (α := Nat) 0 (fun i => [(3, .int .i64 (i : Nat)), (1, .slice (some ⟨g8, 0, none⟩) 2 2), (2, .slice (some ⟨g13, 0, none⟩) 2 2)])
    (fun i w' => i ≤ 2 ∧ row w' g8 [.int .i64 1, .int .i64 4] 3 ∧ row w' g13 (bv [Y, T].flatten) 34 ∧ Below w.heap.size w w') (fun i => 2 - i)
    ⟨rfl, rfl, rfl, rfl⟩ ⟨Nat.zero_le _, hr8, hr13', hB⟩ ?_
  clear hr8 hr13 hr13' hB
  have hYT : secsOk [Y, T] := fun s hs => by
    simp only [List.mem_cons, List.not_mem_nil, or_false] at hs
    rcases hs with rfl | rfl <;> assumption
  have hYTl := flat_len hYT
  rintro i f wr ⟨hi, hr8, hr13, hB⟩
  refine W_seq (W_seq (W_region (WR_val rfl (rn_move) ?_)))
  refine WR_val rfl (rn_lss rfl rfl) ?_
  refine WR_nil (thenN ?_)
  refine W_ifp rfl (fun hlt => ?_) (fun hlt => ?_)
  ·
   refine W_skip (thenN (W_seq (W_block (W_seq ?_))))
   have hobt := hpl i (by omega)
   obtain ⟨pk, S, hpk, hSl, hleft, hS⟩ := hobt
   have hC2 := fun g lo w' p n cp => hC g lo w' p n cp pk
   rw [hleft] at hC2
   have hobt : ∃ lo, wr.heap.size = lo := ⟨_, rfl⟩
   obtain ⟨lo, hlo⟩ := hobt
   have l8 := hr8.lt
   have l13 := hr13.lt
   have lB := hB.size
   refine W_region ?_
   refine WR_ent rfl (rn_call (by kernel_rfl) rfl) (newC 1 (by omega) (by omega)) ?_
   rintro _ w19 ⟨g, B, rfl, hX, hBlo, hb19⟩
   replace hr8 := hr8.new hb19
   replace hr13 := hr13.new hb19
   replace hB := hB.acc hb19
   have hD0 : Duo (DZ g (newD 1)) None lo w19 := Duo.one hX (by rw [← hlo]; exact hBlo)
   have hsz := hX.lt g hX.self
   have hl0 := hBlo g hX.self
   refine WR_val rfl (rn_move) (WR_val rfl (rn_extract rfl rfl) (WR_val rfl (rn_extract rfl rfl) (WR_val rfl (rn_assign) (WR_val rfl (rn_assign) (WR_nil (thenN (W_seq (W_seq (W_region (WR_val rfl (rn_move) ?_))))))))))
   refine WR_val rfl (rn_neq rfl rfl) ?_
   refine WR_val rfl (rn_move) ?_
   refine WR_fp 24 rfl ((by omega)) ?_
   refine WR_yes rfl (WR_val rfl (rn_move) (WR_yes rfl ?_))
   refine WR_ent rfl (rn_call (by kernel_rfl) rfl) (hFx w19) ?_
   rintro _ w26 ⟨rfl, hb26⟩
   replace hr8 := hr8.new hb26
   replace hr13 := hr13.new hb26
   replace hD0 := hD0.new hb26
   replace hB := hB.acc hb26
   refine WR_yes rfl ?_
   refine WR_ent rfl (rn_call (by kernel_rfl) rfl) (hW1 g lo w26 hD0) ?_
   rintro _ w27 ⟨rfl, hD1, hb27⟩
   replace hr8 := hr8.kpd (Kp.of_lo hb27) (by first | exact notLo (by omega) | (intro b o e; cases e; exact notLo (by omega)) | (intro b hb; exact notLo (by omega)))
   replace hr13 := hr13.kpd (Kp.of_lo hb27) (by first | exact notLo (by omega) | (intro b o e; cases e; exact notLo (by omega)) | (intro b hb; exact notLo (by omega)))
   replace hB := belLo hB hb27 (by omega)
   refine WR_yes rfl ?_
   refine WR_val rfl (rn_neq rfl rfl) ?_
   refine WR_val rfl (rn_pick_f rfl) (WR_val rfl (rn_move) ?_)
   refine WR_fp 30 rfl ((by omega)) ?_
   refine WR_yes rfl (WR_val rfl (rn_move) (WR_yes rfl ?_))
   refine WR_ent rfl (rn_call (by kernel_rfl) rfl) (hF1 g lo w27 hD1) ?_
   rintro _ w32 ⟨rfl, hD2, hb32⟩
   replace hr8 := hr8.kpd (Kp.of_lo hb32) (by first | exact notLo (by omega) | (intro b o e; cases e; exact notLo (by omega)) | (intro b hb; exact notLo (by omega)))
   replace hr13 := hr13.kpd (Kp.of_lo hb32) (by first | exact notLo (by omega) | (intro b o e; cases e; exact notLo (by omega)) | (intro b hb; exact notLo (by omega)))
   replace hB := belLo hB hb32 (by omega)
   refine WR_yes rfl ?_
   refine WR_val rfl (rn_neq rfl rfl) ?_
   refine WR_val rfl (rn_pick_f rfl) (WR_val rfl (rn_move) ?_)
   refine WR_fp 35 rfl ((by omega)) ?_
   refine WR_yes rfl (WR_val rfl (rn_move) (WR_yes rfl ?_))
   refine WR_ent rfl (rn_call (by kernel_rfl) rfl) (hFy w32) ?_
   rintro _ w37 ⟨rfl, hb37⟩
   replace hr8 := hr8.new hb37
   replace hr13 := hr13.new hb37
   replace hD2 := hD2.new hb37
   replace hB := hB.acc hb37
   refine WR_yes rfl ?_
   refine WR_ent rfl (rn_call (by kernel_rfl) rfl) (hW2 g lo w37 hD2) ?_
   rintro _ w38 ⟨rfl, hD3, hb38⟩
   replace hr8 := hr8.kpd (Kp.of_lo hb38) (by first | exact notLo (by omega) | (intro b o e; cases e; exact notLo (by omega)) | (intro b hb; exact notLo (by omega)))
   replace hr13 := hr13.kpd (Kp.of_lo hb38) (by first | exact notLo (by omega) | (intro b o e; cases e; exact notLo (by omega)) | (intro b hb; exact notLo (by omega)))
   replace hB := belLo hB hb38 (by omega)
   refine WR_yes rfl ?_
   refine WR_val rfl (rn_neq rfl rfl) ?_
   refine WR_val rfl (rn_pick_f rfl) (WR_val rfl (rn_move) ?_)
   refine WR_fp 41 rfl ((by omega)) ?_
   refine WR_yes rfl (WR_val rfl (rn_move) (WR_yes rfl ?_))
   refine WR_ent rfl (rn_call (by kernel_rfl) rfl) (hFz w38) ?_
   rintro _ w43 ⟨rfl, hb43⟩
   replace hr8 := hr8.new hb43
   replace hr13 := hr13.new hb43
   replace hD3 := hD3.new hb43
   replace hB := hB.acc hb43
   refine WR_yes rfl ?_
   refine WR_ent rfl (rn_call (by kernel_rfl) rfl) (hW3 g lo w43 hD3) ?_
   rintro _ w44 ⟨rfl, hD4, hb44⟩
   replace hr8 := hr8.kpd (Kp.of_lo hb44) (by first | exact notLo (by omega) | (intro b o e; cases e; exact notLo (by omega)) | (intro b hb; exact notLo (by omega)))
   replace hr13 := hr13.kpd (Kp.of_lo hb44) (by first | exact notLo (by omega) | (intro b o e; cases e; exact notLo (by omega)) | (intro b hb; exact notLo (by omega)))
   replace hB := belLo hB hb44 (by omega)
   refine WR_yes rfl ?_
   refine WR_val rfl (rn_neq rfl rfl) ?_
   refine WR_val rfl (rn_pick_f rfl) (WR_val rfl (rn_move) ?_)
   refine WR_fp 47 rfl ((by omega)) ?_
   refine WR_yes rfl (WR_val rfl (rn_move) (WR_yes rfl (WR_val rfl (rn_move) (WR_yes rfl (WR_val rfl (rn_move) (WR_yes rfl ?_))))))
   refine WR_val rfl (rn_indexSl1 (e := 3) (by kernel_rfl) rfl rfl (i) (by omega) (by omega)) ?_
   refine WR_yes rfl ?_
   refine WR_val rfl (rn_load rfl (Ld.row1 hr8 (by kernel_rfl) (show [Value.int .i64 1, Value.int .i64 4][0 + i]? = some (.int .i64 pk) by rw [Nat.zero_add]; exact iv_some (l := [1, 4]) hpk))) ?_
   refine WR_yes rfl ?_
   have hDb := hD4
   refine WR_mk rfl (mk_one (e := 3) (.int .i64 pk) ([.int .i64 pk]) ([Value.int .i64 0]) 1 (by kernel_rfl) (by kernel_rfl) rfl rfl rfl ⟨by decide, by decide⟩ (fun g53 w53 hg53 hr53 hb53 => ?_))
   have ge_hB_g53 := Nat.le_trans hB.size hg53
   have lt_g8_g53 : g8 < g53 := Nat.lt_of_lt_of_le hr8.lt hg53
   have lt_g13_g53 : g13 < g53 := Nat.lt_of_lt_of_le hr13.lt hg53
   replace hr8 := hr8.new hb53
   replace hr13 := hr13.new hb53
   replace hD4 := hD4.new hb53
   replace hB := hB.acc hb53
   have hDp := Duo.add (Y := SZ (some ⟨g53, 0, none⟩) 1 [pk]) (C := [g53]) hDb (dzLo hDb) hb53 ⟨fun b o e => by cases e; simp, fun b hb => by rw [List.mem_singleton.1 hb]; exact hr53.lt, hr53.slA (m := 1) (sz := 1) rfl (by omega)⟩ (fun b hb => by rw [List.mem_singleton.1 hb]; exact hg53)
   refine WR_yes rfl ?_
   refine WR_ent rfl (rn_call (by kernel_rfl) rfl) (hC2 g lo w53 _ _ _ hDp) ?_
   rintro _ w54 ⟨rfl, hD5, hb54⟩
   replace hr8 := hr8.kpd (Kp.of_lo hb54) (by first | exact notLo (by omega) | (intro b o e; cases e; exact notLo (by omega)) | (intro b hb; exact notLo (by omega)))
   replace hr13 := hr13.kpd (Kp.of_lo hb54) (by first | exact notLo (by omega) | (intro b o e; cases e; exact notLo (by omega)) | (intro b hb; exact notLo (by omega)))
   replace hB := belLo hB hb54 (by omega)
   have hD6 := Duo.fst hD5
   refine WR_yes rfl ?_
   refine WR_val rfl (rn_neq rfl rfl) ?_
   refine WR_val rfl (rn_pick_f rfl) (WR_nil (thenN ?_))
   refine W_fp rfl ((by omega)) ?_
   refine W_skip (thenN (W_seq (W_region (WR_val rfl (rn_move) ?_))))
   refine WR_ent rfl (rn_call (by kernel_rfl) rfl) (hR g lo w54 S hD6) ?_
   rintro _ w59 ⟨rfl, hb59⟩
   replace hr8 := hr8.new hb59
   replace hr13 := hr13.new hb59
   replace hB := hB.acc hb59
   refine WR_val rfl (rn_move) (WR_val rfl (rn_extract rfl rfl) (WR_val rfl (rn_extract rfl rfl) ?_))
   refine WR_mk rfl (mk_alloc (List.replicate 128 (Value.int .u8 0)) (by kernel_rfl) (fun g6 w6 hg6 hr6 hb6 => ?_))
   have ge_hB_g6 := Nat.le_trans hB.size hg6
   have lt_g8_g6 : g8 < g6 := Nat.lt_of_lt_of_le hr8.lt hg6
   have lt_g13_g6 : g13 < g6 := Nat.lt_of_lt_of_le hr13.lt hg6
   replace hr8 := hr8.new hb6
   replace hr13 := hr13.new hb6
   replace hB := hB.acc hb6
   rw [hzb] at hr6
   refine WR_sk rfl (sk_storeA 128 (bv S) rfl rfl hr6 (by kernel_rfl) (by first | assumption | (simp; done) | (simp [bv_length, *]; done)) (by first | assumption | (simp; done) | (simp [bv_length, *]; done) | rfl) (by first | exact bv_one _ | assumption | (simp [Value.oneCell']; done)) (fun w901 hr6 ho901 => ?_))
   replace hr8 := hr8.only ho901 (Nat.ne_of_lt lt_g8_g6)
   replace hr13 := hr13.only ho901 (Nat.ne_of_lt lt_g13_g6)
   replace hB := ho901.below hB ge_hB_g6
   refine WR_val rfl (rn_assign) (WR_nil (thenN (W_seq ?_)))
   refine W_draw' [] (by kernel_rfl) ?_
   intro w902 hb902 hS902
   replace hr8 := hr8.new hb902
   replace hr13 := hr13.new hb902
   replace hr6 := hr6.new hb902
   replace hB := hB.acc hb902
   have hr8_d902 := hr8
   have hr13_d902 := hr13
   have hr6_d902 := hr6
   have hB_d902 := hB
   refine WA_take 0 (by kernel_rfl) rfl (fun _ _ => rn_move) ?_
   refine WA_take 1 (by kernel_rfl) rfl (fun _ _ => rn_neq rfl rfl) ?_
   refine WA_take 2 (by kernel_rfl) rfl (fun _ _ => rn_move) ?_
   refine WA_fp 64 rfl ((by omega)) ?_
   refine WA_take 3 (by kernel_rfl) rfl (fun w' hS' => rn_load rfl (Ld.rowA (k := 128) (hr6_d902.kq hS') (by kernel_rfl) (by kernel_rfl) (by first | (simp; done) | (simp [bv_length, *]; done) | assumption))) ?_
   refine WA_take 4 (by kernel_rfl) rfl (fun _ _ => rn_move) ?_
   refine WA_take 5 (by kernel_rfl) rfl (fun _ _ => rn_move) ?_
   refine WA_take 6 (by kernel_rfl) rfl (fun _ _ => rn_indexSl (e := 34) (sz := 128) (by kernel_rfl) rfl rfl (i) (by omega) (by omega)) ?_
   refine WA_take 7 (by kernel_rfl) rfl (fun w' hS' => rn_load rfl (ld_sec ((hr13_d902.kq hS').slA (m := 2) (sz := 128) (by rw [bv_length]; exact hYTl) (by omega)) hYT hS)) ?_
   refine WA_take 8 (by kernel_rfl) rfl (fun _ _ => rn_neqA (n := 128) (by kernel_rfl) rfl rfl hSl hSl) ?_
   refine WA_take 9 (by kernel_rfl) rfl (fun _ _ => rn_pick_f rfl) ?_
   refine WA_done (by kernel_rfl) ?_
   refine thenN ?_
   refine W_fn rfl ((by simp)) ?_
   refine W_skip (blockN (thenN (W_region (WR_val rfl (rn_move) ?_))))
   refine WR_val rfl (rn_add rfl rfl (Coup.w64 (by omega))) ?_
   refine WR_val rfl (rn_assign) (WR_nil ?_)
   refine loopN ⟨i + 1, by omega, ⟨by go_num, rfl, rfl, rfl⟩, by omega, hr8, hr13, hB⟩
  ·
   refine W_exit (thenX (loopX (blockX (thenN (W_seq (W_region (WR_val rfl (rn_assign) (WR_nil (thenN (W_ret ?_))))))))))
   refine ret_ret [_] ⟨rfl, trivial⟩ ?_
   exact ⟨rfl, hB⟩
end Go.Proofs.Ytpndhildmfmcgaa
namespace Coup
open Go Go.RowKit
structure LoL (lo : Nat) (L : List Nat) (w w' : World) : Prop where
  os : w'.os = w.os
  tape : w'.tape = w.tape
  output : w'.output = w.output
  size : w.heap.size ≤ w'.heap.size
  block : ∀ i, i < w.heap.size → (i < lo ∨ i ∈ L) → w'.heap[i]? = w.heap[i]?
def outL (lo : Nat) (L : List Nat) (n : Nat) : List Nat := (List.range n).filter fun i => decide (¬ (i < lo ∨ i ∈ L))
theorem notLL {lo n b : Nat} {L : List Nat} (h : b < lo ∨ b ∈ L) : b ∉ outL lo L n := fun hm => by
  have := (List.mem_filter.1 hm).2
  simp only [decide_eq_true_eq] at this
  exact this h
theorem inLL {lo n b : Nat} {L : List Nat} (h : b ∈ outL lo L n) : lo ≤ b ∧ b ∉ L := by
  have := (List.mem_filter.1 h).2
  simp only [decide_eq_true_eq, not_or, Nat.not_lt] at this
  exact this
namespace LoL
variable {lo : Nat} {L : List Nat} {w w1 w2 w' : World}
theorem refl (lo : Nat) (L : List Nat) (w : World) : LoL lo L w w := ⟨rfl, rfl, rfl, Nat.le_refl _, fun _ _ _ => rfl⟩
theorem kp (h : LoL lo L w w') : Kp (outL lo L w.heap.size) w w' :=
  ⟨h.os, h.tape, h.output, h.size, fun i hi hm => h.block i hi (by
    by_cases hx : i < lo ∨ i ∈ L
    · exact hx
    · exact absurd (List.mem_filter.2 ⟨List.mem_range.2 hi, decide_eq_true hx⟩) hm)⟩
theorem of_kp {M : List Nat} (h : Kp M w w') (hM : ∀ b ∈ M, (lo ≤ b ∧ b ∉ L) ∨ w.heap.size ≤ b) : LoL lo L w w' :=
  ⟨h.os, h.tape, h.output, h.size, fun i hi hx => h.block i hi fun hm => by
    rcases hM i hm with h1 | h1
    · exact hx.elim (fun hx => by omega) h1.2
    · omega⟩
theorem of_below (h : Below w.heap.size w w') : LoL lo L w w' := of_kp (M := []) (Kp.of_below h) (by simp)
theorem kpd {M : List Nat} (h : LoL lo L w w1) (k : Kp M w1 w') (hM : ∀ b ∈ M, (lo ≤ b ∧ b ∉ L) ∨ w.heap.size ≤ b) : LoL lo L w w' :=
  ⟨k.os.trans h.os, k.tape.trans h.tape, k.output.trans h.output, Nat.le_trans h.size k.size, fun i hi hx => (k.block i (Nat.lt_of_lt_of_le hi h.size) fun hm => by
    rcases hM i hm with h1 | h1
    · exact hx.elim (fun hx => by omega) h1.2
    · omega).trans (h.block i hi hx)⟩
theorem new (h : LoL lo L w w1) (hb : Below w1.heap.size w1 w') : LoL lo L w w' := h.kpd (M := []) (Kp.of_below hb) (by simp)
theorem only {g : Nat} (h : LoL lo L w w1) (ho : Only g w1 w') (hg : w.heap.size ≤ g ∨ lo ≤ g ∧ g ∉ L) : LoL lo L w w' := h.kpd (Kp.of_only ho) fun b hb => by
  rw [List.mem_singleton.1 hb]; exact hg.symm
theorem own {base e sz m : Nat} {v : Value} {xs : List Value} (h : LoL lo L w w1) (ho : ownsAt w1 base e sz v m xs) (hg : w1.grownBy w' v.ownBlock) (hk : w.heap.size ≤ base) : LoL lo L w w' :=
  h.kpd (Kp.of_grown hg) fun b hb => by
    have := (ho.lt b (Option.mem_toList.1 hb)).1
    right; omega
theorem ll {L2 : List Nat} (h : LoL lo L w w1) (k : LoL lo L2 w1 w') (hL : ∀ b ∈ L, b ∈ L2) : LoL lo L w w' := h.kpd k.kp fun b hb => .inl ⟨(inLL hb).1, fun hm => (inLL hb).2 (hL b hm)⟩
theorem weak {lo2 : Nat} {L2 : List Nat} (h : LoL lo L w w') (h1 : lo2 ≤ lo) (h2 : ∀ b ∈ L2, b ∈ L) : LoL lo2 L2 w w' := ⟨h.os, h.tape, h.output, h.size, fun i hi hx => h.block i hi (hx.imp (fun h => by omega) (h2 i))⟩
end LoL
theorem row.kl {lo g t : Nat} {L : List Nat} {cs : List Value} {w w' : World} (h : row w g cs t) (k : LoL lo L w w') (hg : g < lo ∨ g ∈ L := by first | (left; omega) | (right; simp; done) | (right; simp [*]; done)) : row w' g cs t := h.kpd k.kp (notLL hg)
theorem LoL.lq {lo : Nat} {L L2 : List Nat} {w w1 w' : World} (h : LoL lo L w w1) (k : LoL lo L2 w1 w') (hL : ∀ b ∈ L, b ∈ L2 := by first | (intro b hb; exact hb) | (intro b hb; simp [hb]; done) | simp) : LoL lo L w w' := h.ll k hL
theorem LoL.oq {lo g : Nat} {L : List Nat} {w w1 w' : World} (h : LoL lo L w w1) (ho : Only g w1 w') (hg : w.heap.size ≤ g ∨ lo ≤ g ∧ g ∉ L := by first | omega | (right; exact ⟨by omega, by assumption⟩)) : LoL lo L w w' := h.only ho hg
theorem belLL {w0 w w' : World} {lo : Nat} {L : List Nat} (h : Below w0.heap.size w0 w) (k : LoL lo L w w') (hl : w0.heap.size ≤ lo) : Below w0.heap.size w0 w' := h.kpd k.kp fun _ hm => Nat.le_trans hl (inLL hm).1
theorem KpB.ll {M : List Nat} {w0 w w' : World} {lo : Nat} {L : List Nat} (h : KpB M w0 w) (k : LoL lo L w w') (hl : w0.heap.size ≤ lo) : KpB M w0 w' := h.kpd k.kp fun _ hm => .inr (Nat.le_trans hl (inLL hm).1)
section
variable {md : Option Nat → Prop} {P : Program} {n : Nat} {Q : Post} {ρ : Env} {w w1 wc w' : World} {l : List Oper} {lo : Nat} {L : List Nat}
end
structure Two (X Y : World → List Nat → Prop) (lo : Nat) (L : List Nat) (w : World) : Prop where
  ex : ∃ B C, X w B ∧ Y w C ∧ (∀ b ∈ B, lo ≤ b ∧ b ∉ C ∧ b ∉ L) ∧ ∀ b ∈ C, lo ≤ b ∧ b ∉ L
  lo : lo ≤ w.heap.size
  lt : ∀ b ∈ L, b < w.heap.size
namespace Two
variable {X X' Y Y' : World → List Nat → Prop} {lo : Nat} {L : List Nat} {w w' : World}
theorem kpd {M : List Nat} [hX : Thing X] [hY : Thing Y] (h : Two X Y lo L w) (k : Kp M w w') (hM : ∀ b ∈ M, b < lo ∨ b ∈ L) : Two X Y lo L w' := by
  obtain ⟨⟨B, C, h1, h2, h3, h4⟩, h5, h6⟩ := h
  exact ⟨⟨B, C, hX.kpd h1 k fun b hb hm => (hM b hm).elim (fun hl => absurd (h3 b hb).1 (Nat.not_le.2 hl)) (h3 b hb).2.2, hY.kpd h2 k fun b hb hm => (hM b hm).elim (fun hl => absurd (h4 b hb).1 (Nat.not_le.2 hl)) (h4 b hb).2, h3, h4⟩, Nat.le_trans h5 k.size, fun b hb => Nat.lt_of_lt_of_le (h6 b hb) k.size⟩
theorem new [hX : Thing X] [hY : Thing Y] (h : Two X Y lo L w) (hb : Below w.heap.size w w') : Two X Y lo L w' := h.kpd (M := []) (Kp.of_below hb) (by simp)
theorem newc {g : Nat} [hX : Thing X] [hY : Thing Y] (h : Two X Y lo L w) (hb : Below w.heap.size w w') (hg : w.heap.size ≤ g) (hg' : g < w'.heap.size) : Two X Y lo (g :: L) w' := by
  obtain ⟨⟨B, C, h1, h2, h3, h4⟩, h5, h6⟩ := h
  refine ⟨⟨B, C, hX.kpd h1 (M := []) (Kp.of_below hb) (by simp), hY.kpd h2 (M := []) (Kp.of_below hb) (by simp), fun b hb => ⟨(h3 b hb).1, (h3 b hb).2.1, fun hm => ?_⟩, fun b hb => ⟨(h4 b hb).1, fun hm => ?_⟩⟩, Nat.le_trans h5 hb.size, fun b hm => ?_⟩
  · rcases List.mem_cons.1 hm with rfl | hm
    · exact absurd (hX.lt h1 _ hb) (Nat.not_lt.2 hg)
    · exact (h3 b hb).2.2 hm
  · rcases List.mem_cons.1 hm with rfl | hm
    · exact absurd (hY.lt h2 _ hb) (Nat.not_lt.2 hg)
    · exact (h4 b hb).2 hm
  · rcases List.mem_cons.1 hm with rfl | hm
    · exact hg'
    · exact Nat.lt_of_lt_of_le (h6 b hm) hb.size
theorem only {g : Nat} [hX : Thing X] [hY : Thing Y] (h : Two X Y lo L w) (ho : Only g w w') (hg : g < lo ∨ g ∈ L) : Two X Y lo L w' := h.kpd (Kp.of_only ho) fun b hb => by rw [List.mem_singleton.1 hb]; exact hg
theorem weak {L2 : List Nat} (h : Two X Y lo L w) (h2 : ∀ b ∈ L2, b ∈ L) : Two X Y lo L2 w := by
  obtain ⟨⟨B, C, a, b, h3, h4⟩, h5, h6⟩ := h
  exact ⟨⟨B, C, a, b, fun x hx => ⟨(h3 x hx).1, (h3 x hx).2.1, fun hm => (h3 x hx).2.2 (h2 x hm)⟩, fun x hx => ⟨(h4 x hx).1, fun hm => (h4 x hx).2 (h2 x hm)⟩⟩, h5, fun b hb => h6 b (h2 b hb)⟩
theorem swap (h : Two X Y lo L w) : Two Y X lo L w := by
  obtain ⟨⟨B, C, h1, h2, h3, h4⟩, h5, h6⟩ := h
  exact ⟨⟨C, B, h2, h1, fun b hb => ⟨(h4 b hb).1, fun hm => (h3 b hm).2.1 hb, (h4 b hb).2⟩, fun b hb => ⟨(h3 b hb).1, (h3 b hb).2.2⟩⟩, h5, h6⟩
theorem mv {B B' C : List Nat} [hX : Thing X] [hY : Thing Y] (h1 : X' w' B') (h2 : Y w C) (h3 : ∀ b ∈ B, lo ≤ b ∧ b ∉ C ∧ b ∉ L) (h4 : ∀ b ∈ C, lo ≤ b ∧ b ∉ L) (h5 : lo ≤ w.heap.size) (h6 : ∀ b ∈ L, b < w.heap.size) (hm : Mv B B' w w') : Two X' Y lo L w' :=
  ⟨⟨B', C, h1, hY.kpd h2 hm.k fun b hb hb' => (h3 b hb').2.1 hb, fun b hb => by
    rcases hm.sub b hb with hb' | hb'
    · exact h3 b hb'
    · exact ⟨Nat.le_trans h5 hb', fun hc => absurd (hY.lt h2 b hc) (Nat.not_lt.2 hb'), fun hc => absurd (h6 b hc) (Nat.not_lt.2 hb')⟩, h4⟩, Nat.le_trans h5 hm.k.size, fun b hb => Nat.lt_of_lt_of_le (h6 b hb) hm.k.size⟩
theorem left [hX : Thing X] [hY : Thing Y] {P : Program} {f : FuncId} {args : Array Value} {R : Value → Prop} (h : Two X Y lo L w)
    (hc : ∀ B, X w B → (∀ b ∈ B, lo ≤ b ∧ b ∉ L) → Calls P f args w (Ret fun v w' => R v ∧ ∃ B', X' w' B' ∧ Mv B B' w w')) : Calls P f args w (Ret fun v w' => R v ∧ Two X' Y lo L w' ∧ LoL lo L w w') := by
  obtain ⟨⟨B, C, h1, h2, h3, h4⟩, h5, h6⟩ := h
  exact (hc B h1 fun b hb => ⟨(h3 b hb).1, (h3 b hb).2.2⟩).to fun v w' ⟨hR, B', hX', hm⟩ => ⟨hR, mv (X := X) hX' h2 h3 h4 h5 h6 hm, LoL.of_kp hm.k fun b hb => .inl ⟨(h3 b hb).1, (h3 b hb).2.2⟩⟩
theorem right [hX : Thing X] [hY : Thing Y] {P : Program} {f : FuncId} {args : Array Value} {R : Value → Prop} (h : Two X Y lo L w)
    (hc : ∀ B, Y w B → (∀ b ∈ B, lo ≤ b ∧ b ∉ L) → Calls P f args w (Ret fun v w' => R v ∧ ∃ B', Y' w' B' ∧ Mv B B' w w')) : Calls P f args w (Ret fun v w' => R v ∧ Two X Y' lo L w' ∧ LoL lo L w w') :=
  (h.swap.left hc).to fun _ _ ⟨h1, h2, h3⟩ => ⟨h1, h2.swap, h3⟩
theorem one {B : List Nat} (h : X w B) (hB : ∀ b ∈ B, lo ≤ b ∧ b ∉ L) (hl : lo ≤ w.heap.size) (hL : ∀ b ∈ L, b < w.heap.size) : Two X None lo L w := ⟨⟨B, [], h, rfl, fun b hb => ⟨(hB b hb).1, by simp, (hB b hb).2⟩, fun b hb => nomatch hb⟩, hl, hL⟩
theorem add {C : List Nat} [hX : Thing X] (h : Two X None lo L w) (hb : Below w.heap.size w w') (hY : Y w' C) (hC : ∀ b ∈ C, w.heap.size ≤ b) : Two X Y lo L w' := by
  obtain ⟨⟨B, _, h1, rfl, h3, h4⟩, h5, h6⟩ := h
  exact ⟨⟨B, C, hX.kpd h1 (M := []) (Kp.of_below hb) (by simp), hY, fun b hb => ⟨(h3 b hb).1, fun hc => absurd (hX.lt h1 b hb) (Nat.not_lt.2 (hC b hc)), (h3 b hb).2.2⟩, fun b hb => ⟨Nat.le_trans h5 (hC b hb), fun hm => absurd (h6 b hm) (Nat.not_lt.2 (hC b hb))⟩⟩, Nat.le_trans h5 hb.size, fun b hm => Nat.lt_of_lt_of_le (h6 b hm) hb.size⟩
theorem fst (h : Two X Y lo L w) : Two X None lo L w := by
  obtain ⟨⟨B, C, h1, h2, h3, h4⟩, h5, h6⟩ := h
  exact ⟨⟨B, [], h1, rfl, fun b hb => ⟨(h3 b hb).1, by simp, (h3 b hb).2.2⟩, fun b hb => nomatch hb⟩, h5, h6⟩
end Two
def OwnZ (e sz : Nat) (u : Value) (m : Nat) (xs : List Value) : World → List Nat → Prop := fun w C => C = u.ownBlock.toList ∧ ownsAt w 0 e sz u m xs
instance (e sz : Nat) (u : Value) (m : Nat) (xs : List Value) : Thing (OwnZ e sz u m xs) :=
  ⟨fun {w w' B M} h k hM => ⟨h.1, h.2.kpd k fun g hm e => hM g (by rw [h.1]; exact Option.mem_toList.2 e) hm⟩, fun {w B} h b hb => by rw [h.1] at hb; exact (h.2.lt b (Option.mem_toList.1 hb)).2⟩
namespace Two
variable {X : World → List Nat → Prop} {lo : Nat} {L : List Nat} {w w' : World} {e sz : Nat} {u v : Value} {m k : Nat} {xs ys : List Value}
theorem owns (h : Two X (OwnZ e sz u m xs) lo L w) : ownsAt w 0 e sz u m xs := by
  obtain ⟨⟨B, C, h1, h2, h3, h4⟩, h5, h6⟩ := h
  exact h2.2
end Two
end Coup
namespace Go.Proofs.Ytpndhildmfmcgaa
open Go Go.RowKit Coup
theorem row_inj {w : World} {g t : Nat} {l l' : List Value} (h1 : Coup.row w g l t) (h2 : Coup.row w g l' t) : l = l' := by
  unfold Coup.row at h1 h2
  rw [h1] at h2
  have := Option.some.inj h2
  simpa using this
theorem rf_mv {w w' : World} {g pv : Nat} {G : List Nat} {D' : Dk} {ov cv : Nat} (h : ∃ G' vs', RfM w' g pv G' D' ov cv vs' ∧ ∀ b ∈ G', b ∈ G ∨ w.heap.size ≤ b) (k : Kp [g, pv] w w') : ∃ C', RfX w' g C' D' ∧ Mv ([g, pv] ++ G) C' w w' := by
  obtain ⟨G', vs', h1, h2⟩ := h
  refine ⟨[g, pv] ++ G', ⟨pv, G', ov, cv, vs', rfl, h1⟩, k.weak fun b _ hb => List.mem_append_left _ hb, fun b hb => ?_⟩
  rcases List.mem_append.1 hb with hb | hb
  · exact .inl (List.mem_append_left _ hb)
  · exact (h2 b hb).imp (List.mem_append_right _) id
section
variable {Y : World → List Nat → Prop} [Thing Y] {g lo : Nat} {L : List Nat} {D : Dk} {w : World}
omit [Thing Y] in
theorem tOk (h : Two (DZ g D) Y lo L w) : DkOk D ∧ 0 < D.V.length := by
  obtain ⟨⟨B, C, h1, h2, h3, h4⟩, h5, h6⟩ := h
  exact ⟨h1.ok, h1.pos⟩
theorem tWrite (h : Two (DZ g D) Y lo L w) (i : Int) (s : Sec) (hs : s.length = 128) (hsh : shortD D 90000) :
    Calls Try.prog 17 [.pointer (some ⟨g, 0, none⟩), .int .i64 i, .agg (bv s).toArray].toArray w (Ret fun v w' => v = .int .i64 (writeE D i) ∧ Two (DZ g (writeA D i s)) Y lo L w' ∧ LoL lo L w w') :=
  h.left fun B hX _ => write hX i s hs hsh
theorem tFlush (h : Two (DZ g D) Y lo L w) :
    Calls Try.prog 16 [.pointer (some ⟨g, 0, none⟩)].toArray w (Ret fun v w' => v = .int .i64 (if stepOk D then 0 else 10) ∧ Two (DZ g (flushD D)) Y lo L w' ∧ LoL lo L w w') :=
  h.left fun B hX _ => (flush hX).to fun _ _ ⟨h1, h2, h3⟩ => ⟨h1, B, h2, .of_kp h3⟩
theorem tFuse (h : Two (DZ g D) Y lo L w) (k : Int) (hk : k ≤ 9223372036854775807) :
    Calls Try.prog 15 [.pointer (some ⟨g, 0, none⟩), .int .i64 k].toArray w (Ret fun v w' => v = .int .i64 (if 0 ≤ k then 0 else 2) ∧ Two (DZ g (fuseA D k)) Y lo L w' ∧ LoL lo L w w') :=
  h.left fun B hX _ => (fuse hX k hk).to fun _ _ ⟨h1, h2, h3⟩ => ⟨h1, B, h2, .of_kp h3⟩
theorem tCrash (h : Two (DZ g D) Y lo L w) (pp : Option Addr) (np cp : Nat) (picks : List Int) (hpk : SlAt w pp np 1 (iv picks)) (hpkb : 0 < np → ∀ b o, pp = some ⟨b, o, none⟩ → b < lo ∨ b ∈ L) :
    Calls Try.prog 20 [.pointer (some ⟨g, 0, none⟩), .slice pp np cp].toArray w (Ret fun v w' => v = .int .i64 0 ∧ Two (DZ g (crashD D picks)) Y lo L w' ∧ LoL lo L w w') :=
  h.left fun B hX hB => (crash hX pp np cp picks hpk fun h0 b o e hm => (hpkb h0 b o e).elim (fun hl => absurd (hB b hm).1 (Nat.not_le.2 hl)) (hB b hm).2).to fun _ _ ⟨h1, h2, h3⟩ => ⟨h1, B, h2, .of_kp h3⟩
omit [Thing Y]
theorem tRead (h : Two (DZ g D) Y lo L w) (i : Int) : Calls Try.prog 23 [.pointer (some ⟨g, 0, none⟩), .int .i64 i].toArray w (Ret fun v w' => v = .tuple #[.agg (bv (if inD D i then readD D i.toNat else zeroS)).toArray, .int .i64 (if inD D i then 0 else 2)] ∧ Below w.heap.size w w') := by
  obtain ⟨⟨B, C, h1, h2, h3, h4⟩, h5, h6⟩ := h
  exact read h1 i
end
section
variable {X : World → List Nat → Prop} [Thing X] {g lo : Nat} {L : List Nat} {D : Dk} {w : World}
theorem uWrite (h : Two X (RZ g D) lo L w) (i : Nat) (s : Sec) (hi : i < D.V.length) (hs : s.length = 128) (hsh : shortD D 90000) :
    Calls Try.prog 32 [.pointer (some ⟨g, 0, none⟩), .int .i64 (i : Int), .agg (bv s).toArray].toArray w (Ret fun v w' => v = .bool (stepOk D) ∧ Two X (RZ g (writeD D i s)) lo L w' ∧ LoL lo L w w') :=
  h.right fun B hX _ => by
    obtain ⟨pv, G, ov, cv, vs, rfl, h1⟩ := hX
    exact (rwrite32 h1 i s hi hs (Nat.lt_of_le_of_lt (hsh.ver hi) (by omega))).to fun v w' ⟨a, b, c⟩ => ⟨a, rf_mv b c⟩
theorem uFlush (h : Two X (RZ g D) lo L w) :
    Calls Try.prog 33 [.pointer (some ⟨g, 0, none⟩)].toArray w (Ret fun v w' => v = .bool (stepOk D) ∧ Two X (RZ g (flushD D)) lo L w' ∧ LoL lo L w w') :=
  h.right fun B hX _ => by
    obtain ⟨pv, G, ov, cv, vs, rfl, h1⟩ := hX
    exact (rflush33 h1).to fun v w' ⟨a, b, c⟩ => ⟨a, rf_mv b c⟩
theorem uCrash (h : Two X (RZ g D) lo L w) (pp : Option Addr) (np cp : Nat) (picks : List Int) (hpk : SlAt w pp np 1 (iv picks)) (hpkb : 0 < np → ∀ b o, pp = some ⟨b, o, none⟩ → b < lo ∨ b ∈ L) :
    Calls Try.prog 34 [.pointer (some ⟨g, 0, none⟩), .slice pp np cp].toArray w (Ret fun _ w' => True ∧ Two X (RZ g (crashD D picks)) lo L w' ∧ LoL lo L w w') :=
  h.right fun B hX hB => by
    obtain ⟨pv, G, ov, cv, vs, rfl, h1⟩ := hX
    exact (rcrash34 h1 pp np cp picks hpk fun h0 b o e hm => (hpkb h0 b o e).elim (fun hl => absurd (hB b (List.mem_append_left _ hm)).1 (Nat.not_le.2 hl)) (hB b (List.mem_append_left _ hm)).2).to fun v w' ⟨b, c⟩ => ⟨trivial, rf_mv b c⟩
omit [Thing X]
theorem uIn (h : Two X (RZ g D) lo L w) (i : Int) : Calls Try.prog 30 [.pointer (some ⟨g, 0, none⟩), .int .i64 i].toArray w (Ret fun v w' => v = .bool (inD D i) ∧ w = w') := by
  obtain ⟨⟨B, C, h1, ⟨pv, G, ov, cv, vs, rfl, h2⟩, h3, h4⟩, h5, h6⟩ := h
  exact rin30 h2 i
theorem uRead (h : Two X (RZ g D) lo L w) (i : Nat) (hi : i < D.V.length) : Calls Try.prog 26 [.pointer (some ⟨g, 0, none⟩), .int .i64 (i : Int)].toArray w (Ret fun v w' => v = .agg (bv (readD D i)).toArray ∧ Below w.heap.size w w') := by
  obtain ⟨⟨B, C, h1, ⟨pv, G, ov, cv, vs, rfl, h2⟩, h3, h4⟩, h5, h6⟩ := h
  exact rread26 h2 i hi
theorem uRow (h : Two X (RZ g D) lo L w) : ∃ pv ov cv, Coup.row w g [.slice (some ⟨pv, ov, none⟩) D.V.length cv, .int .i64 D.left, .bool D.dead] 58 := by
  obtain ⟨⟨B, C, h1, ⟨pv, G, ov, cv, vs, rfl, h2⟩, h3, h4⟩, h5, h6⟩ := h
  exact ⟨pv, ov, cv, h2.row⟩
end
theorem uLeft {X : World → List Nat → Prop} [Thing X] {g lo : Nat} {L : List Nat} {D : Dk} {w w' : World} (h : Two X (RZ g D) lo L w) {pv ov cv : Nat} {k : Int}
    (hr : Coup.row w g [.slice (some ⟨pv, ov, none⟩) D.V.length cv, .int .i64 D.left, .bool D.dead] 58)
    (hr' : Coup.row w' g [.slice (some ⟨pv, ov, none⟩) D.V.length cv, .int .i64 k, .bool D.dead] 58) (ho : Only g w w') (hk : 0 ≤ k ∧ k ≤ 9223372036854775807) : Two X (RZ g (fuseA D k)) lo L w' ∧ LoL lo L w w' := by
  obtain ⟨⟨B, C, h1, ⟨pv', G, ov', cv', vs, rfl, h2⟩, h3, h4⟩, h5, h6⟩ := h
  have e := row_inj hr h2.row
  have e1 := (List.cons.inj e).1
  injection e1 with ea eb ec
  injection ea with ea
  injection ea with ea eo
  subst ea eo ec
  have hf : fuseA D k = { D with left := k, dead := D.dead } := by unfold fuseA; rw [if_pos hk.1]
  have ht := h2.turn ho hr' (by omega)
  rw [← hf] at ht
  have hm : Mv ([g, pv] ++ G) ([g, pv] ++ G) w w' := .of_kp ((Kp.of_only ho).weak fun b _ hb => by rw [List.mem_singleton.1 hb]; simp)
  exact ⟨(Two.mv (X := RZ g D) (X' := RZ g (fuseA D k)) (Y := X) ⟨pv, G, ov, cv, vs, rfl, ht⟩ h1 (fun b hb => ⟨(h4 b hb).1, fun hc => (h3 b hc).2.1 hb, (h4 b hb).2⟩) (fun b hb => ⟨(h3 b hb).1, (h3 b hb).2.2⟩) h5 h6 hm).swap, LoL.of_kp hm.k fun b hb => .inl (h4 b hb)⟩
end Go.Proofs.Ytpndhildmfmcgaa
namespace Go.Proofs.Ytpndhildmfmcgaa
open Go Go.RowKit Coup
structure AcT where
  kind : Int
  at_ : Int
  n : Int
  s : Sec
  picks : List Int
def acC (a : AcT) (q : Option Addr) (cp : Nat) : List Value := .int .i64 a.kind :: .int .i64 a.at_ :: .int .i64 a.n :: (bv a.s ++ [.slice q a.picks.length cp])
theorem acC_len {a : AcT} {q : Option Addr} {cp : Nat} (hs : a.s.length = 128) : (acC a q cp).length = 132 := by
  simp only [acC, List.length_cons, List.length_append, bv_length, hs, List.length_nil]
set_option maxRecDepth 8000 in
theorem ld_acS {w : World} {g t : Nat} {a : AcT} {q : Option Addr} {cp : Nat} (hr : row w g (acC a q cp) t) (hs : a.s.length = 128) : Ld Try.prog w 34 ⟨g, 0 + 3, none⟩ (.agg (bv a.s).toArray) := by
  have h := Ld.rowN (P := Try.prog) (t := 34) (off := 0 + 3) (k := 128) hr (by kernel_rfl) (by kernel_rfl) (by rw [acC_len hs]; omega)
  have e : ((acC a q cp).drop (0 + 3)).take 128 = bv a.s := by
    show (bv a.s ++ [Value.slice q a.picks.length cp]).take 128 = bv a.s
    rw [List.take_left' (by rw [bv_length]; exact hs)]
  rwa [e] at h
set_option maxRecDepth 8000 in
theorem ld_acP {w : World} {g t : Nat} {a : AcT} {q : Option Addr} {cp : Nat} (hr : row w g (acC a q cp) t) (hs : a.s.length = 128) : Ld Try.prog w 35 ⟨g, 0 + 131, none⟩ (.slice q a.picks.length cp) := by
  refine Ld.row1 hr (by kernel_rfl) ?_
  show (bv a.s ++ [Value.slice q a.picks.length cp])[128]? = _
  rw [List.getElem?_append_right (by rw [bv_length]; omega), bv_length, hs]; rfl
def doD (D : Dk) (a : AcT) : Dk :=
  if a.kind = 1 then writeA D a.at_ a.s else if a.kind = 2 then flushD D else if a.kind = 3 then fuseA D a.n else if a.kind = 4 then crashD D a.picks else D
theorem inD_nat {D : Dk} {i : Int} (h : inD D i = true) : ∃ k : Nat, i = k ∧ k < D.V.length := by
  have := of_decide_eq_true h
  exact ⟨i.toNat, by omega, by omega⟩
theorem uWriteI {X : World → List Nat → Prop} [Thing X] {g lo : Nat} {L : List Nat} {D : Dk} {w : World} (h : Two X (RZ g D) lo L w) (i : Int) (s : Sec) (hi : inD D i = true) (hs : s.length = 128) (hsh : shortD D 90000) :
    Calls Try.prog 32 [.pointer (some ⟨g, 0, none⟩), .int .i64 i, .agg (bv s).toArray].toArray w (Ret fun v w' => v = .bool (stepOk D) ∧ Two X (RZ g (writeA D i s)) lo L w' ∧ LoL lo L w w') := by
  rw [writeA, hi, if_pos rfl]
  obtain ⟨k, rfl, hk⟩ := inD_nat hi
  exact uWrite h k s hk hs hsh
theorem uReadI {X : World → List Nat → Prop} {g lo : Nat} {L : List Nat} {D : Dk} {w : World} (h : Two X (RZ g D) lo L w) (i : Int) (hi : inD D i = true) :
    Calls Try.prog 26 [.pointer (some ⟨g, 0, none⟩), .int .i64 i].toArray w (Ret fun v w' => v = .agg (bv (readD D i.toNat)).toArray ∧ Below w.heap.size w w') := by
  obtain ⟨k, rfl, hk⟩ := inD_nat hi
  exact uRead h k hk
set_option maxRecDepth 20000 in
theorem errno31 (b : Bool) (w : World) : Calls Try.prog 31 [.bool b].toArray w (Ret fun v w' => v = .int .i64 (if b then 0 else 10) ∧ w = w') := by
  refine calls_W (fn := Try.f31) (rs := [.tmp 2]) (n := 4) Try.func31 rfl rfl Try.ntmps31 (by kernel_rfl) rfl ?_
  refine W_seq (W_region (WR_val rfl (rn_assign) (WR_nil (thenN (W_seq (W_seq (W_region (WR_val rfl (rn_move) (WR_nil (thenN ?_))))))))))
  refine W_if rfl (fun hb => ?_) (fun hb => ?_)
  ·
   refine W_seq (W_region (WR_val rfl (rn_assign) (WR_nil (thenN (W_ret (thenR ?_))))))
   refine ret_ret [_] ⟨rfl, trivial⟩ ?_
   exact ⟨by rw [hb]; rfl, rfl⟩
  ·
   refine W_skip (thenN (W_seq (W_region (WR_val rfl (rn_assign) (WR_nil (thenN (W_ret ?_)))))))
   refine ret_ret [_] ⟨rfl, trivial⟩ ?_
   exact ⟨by rw [hb]; rfl, rfl⟩
set_option maxRecDepth 8000 in
set_option maxHeartbeats 2000000 in
theorem do13 {g h lo : Nat} {L : List Nat} {D : Dk} {w : World} (hD : Two (DZ g D) (RZ h D) lo L w) (a : AcT) (q : Option Addr) (cp : Nat) (hs : a.s.length = 128) (hn : a.n ≤ 9223372036854775807) (hq : SlAt w q a.picks.length 1 (iv a.picks))
    (hqb : 0 < a.picks.length → ∀ b o, q = some ⟨b, o, none⟩ → b < lo ∨ b ∈ L) (hsh : shortD D 90000) :
    Calls Try.prog 13 [.pointer (some ⟨g, 0, none⟩), .pointer (some ⟨h, 0, none⟩), .agg (acC a q cp).toArray].toArray w (Ret fun v w' => v = .bool true ∧ Two (DZ g (doD D a)) (RZ h (doD D a)) lo L w' ∧ LoL lo L w w') := by
  have hLL := LoL.refl lo L w
  have hacl := acC_len (q := q) (cp := cp) hs
  have hsl : (bv a.s).length = 128 := by rw [bv_length]; exact hs
  obtain ⟨Z, hzz, hzb, hzl⟩ := zeroSQ
  refine calls_W (fn := Try.f13) (rs := [.tmp 6]) (n := 105) Try.func13 rfl rfl Try.ntmps13 (by kernel_rfl) rfl ?_
  refine W_seq (W_region ?_)
  refine WR_mk rfl (mk_box ((acC a q cp)) rfl (fun g5 w5 hg5 hr5 hb5 => ?_))
  replace hD := hD.newc hb5 hg5 hr5.lt
  replace hLL := hLL.new hb5
  refine WR_val rfl (rn_assign) (WR_nil (thenN (W_seq (W_seq (W_region (WR_val rfl (rn_fieldAddr (off := 0) (by kernel_rfl) rfl) ?_))))))
  refine WR_val rfl (rn_load rfl (Ld.row1 hr5 (by kernel_rfl) rfl)) ?_
  refine WR_nil (thenN (W_block (W_seq (W_region ?_))))
  refine WR_val rfl (rn_eql rfl rfl) ?_
  refine WR_val rfl (rn_assign) (WR_nil (thenN ?_))
  refine W_ifp rfl (fun hk1 => ?_) (fun hk1 => ?_)
  ·
   refine W_seq (W_region (WR_val rfl (rn_move) (WR_val rfl (rn_fieldAddr (off := 1) (by kernel_rfl) rfl) ?_)))
   refine WR_val rfl (rn_load rfl (Ld.row1 hr5 (by kernel_rfl) rfl)) ?_
   refine WR_val rfl (rn_fieldAddr (off := 3) (by kernel_rfl) rfl) ?_
   refine WR_val rfl (rn_load rfl (ld_acS hr5 hs)) ?_
   refine WR_ent rfl (rn_call (by kernel_rfl) rfl) (tWrite hD a.at_ a.s hs hsh) ?_
   rintro _ w20 ⟨rfl, hD, hb20⟩
   replace hLL := hLL.lq hb20
   replace hr5 := hr5.kl hb20
   refine WR_val rfl (rn_assign) (WR_nil (thenN (W_seq (W_seq (W_region (WR_val rfl (rn_move) (WR_val rfl (rn_fieldAddr (off := 1) (by kernel_rfl) rfl) ?_)))))))
   refine WR_val rfl (rn_load rfl (Ld.row1 hr5 (by kernel_rfl) rfl)) ?_
   refine WR_ent rfl (rn_call (by kernel_rfl) rfl) (uIn hD a.at_) ?_
   rintro _ _ ⟨rfl, rfl⟩
   refine WR_val rfl (rn_not rfl) ?_
   refine WR_nil (thenN ?_)
   refine W_ifnb rfl (fun hin => ?_) (fun hin => ?_)
   ·
    refine W_seq (W_region (WR_val rfl (rn_move) ?_))
    refine WR_val rfl (rn_eql rfl rfl) ?_
    refine WR_val rfl (rn_assign) (WR_nil (thenN (W_ret (thenR (blockR (thenR ?_))))))
    refine ret_ret [_] ⟨rfl, trivial⟩ ?_
    have e : doD D a = writeA D a.at_ a.s := by rw [doD, if_pos hk1]
    have e2 : writeA D a.at_ a.s = D := by rw [writeA, hin]; rfl
    rw [e, e2]
    rw [e2] at hD
    refine ⟨?_, hD.weak (fun b hb => List.mem_cons_of_mem _ hb), hLL⟩
    show Value.bool (decide (writeE D a.at_ = 2)) = _
    rw [writeE, hin]; rfl
   ·
    refine W_skip (thenN (W_seq (W_region (WR_val rfl (rn_move) (WR_val rfl (rn_move) (WR_val rfl (rn_fieldAddr (off := 1) (by kernel_rfl) rfl) ?_))))))
    refine WR_val rfl (rn_load rfl (Ld.row1 hr5 (by kernel_rfl) rfl)) ?_
    refine WR_val rfl (rn_fieldAddr (off := 3) (by kernel_rfl) rfl) ?_
    refine WR_val rfl (rn_load rfl (ld_acS hr5 hs)) ?_
    refine WR_ent rfl (rn_call (by kernel_rfl) rfl) (uWriteI hD a.at_ a.s hin hs hsh) ?_
    rintro _ w34 ⟨rfl, hD, hb34⟩
    replace hLL := hLL.lq hb34
    replace hr5 := hr5.kl hb34
    refine WR_ent rfl (rn_call (by kernel_rfl) rfl) (errno31 _ w34) ?_
    rintro _ _ ⟨rfl, rfl⟩
    refine WR_val rfl (rn_eql rfl rfl) ?_
    refine WR_val rfl (rn_assign) (WR_nil (thenN (W_ret (blockR (thenR ?_)))))
    refine ret_ret [_] ⟨rfl, trivial⟩ ?_
    have e : doD D a = writeA D a.at_ a.s := by rw [doD, if_pos hk1]
    rw [e]
    refine ⟨?_, hD.weak (fun b hb => List.mem_cons_of_mem _ hb), hLL⟩
    show Value.bool (decide (writeE D a.at_ = _)) = _
    rw [writeE, hin, if_pos rfl, decide_eq_true rfl]
  ·
   refine W_seq (W_region ?_)
   refine WR_val rfl (rn_eql rfl rfl) ?_
   refine WR_val rfl (rn_assign) (WR_nil (thenN ?_))
   refine W_ifp rfl (fun hk2 => ?_) (fun hk2 => ?_)
   ·
    refine W_seq (W_region (WR_val rfl (rn_move) ?_))
    refine WR_ent rfl (rn_call (by kernel_rfl) rfl) (tFlush hD) ?_
    rintro _ w40 ⟨rfl, hD, hb40⟩
    replace hLL := hLL.lq hb40
    replace hr5 := hr5.kl hb40
    refine WR_val rfl (rn_move) ?_
    refine WR_ent rfl (rn_call (by kernel_rfl) rfl) (uFlush hD) ?_
    rintro _ w42 ⟨rfl, hD, hb42⟩
    replace hLL := hLL.lq hb42
    replace hr5 := hr5.kl hb42
    refine WR_ent rfl (rn_call (by kernel_rfl) rfl) (errno31 _ w42) ?_
    rintro _ _ ⟨rfl, rfl⟩
    refine WR_val rfl (rn_eql rfl rfl) ?_
    refine WR_val rfl (rn_assign) (WR_nil (thenN (W_ret (blockR (thenR ?_)))))
    refine ret_ret [_] ⟨rfl, trivial⟩ ?_
    have e : doD D a = flushD D := by rw [doD, if_neg hk1, if_pos hk2]
    rw [e]
    refine ⟨?_, hD.weak (fun b hb => List.mem_cons_of_mem _ hb), hLL⟩
    show Value.bool (decide (_ = _)) = _
    rw [decide_eq_true rfl]
   ·
    refine W_seq (W_region ?_)
    refine WR_val rfl (rn_eql rfl rfl) ?_
    refine WR_val rfl (rn_assign) (WR_nil (thenN ?_))
    refine W_ifp rfl (fun hk3 => ?_) (fun hk3 => ?_)
    ·
     refine W_seq (W_region (WR_val rfl (rn_move) (WR_val rfl (rn_fieldAddr (off := 2) (by kernel_rfl) rfl) ?_)))
     refine WR_val rfl (rn_load rfl (Ld.row1 hr5 (by kernel_rfl) rfl)) ?_
     refine WR_ent rfl (rn_call (by kernel_rfl) rfl) (tFuse hD a.n hn) ?_
     rintro _ w50 ⟨rfl, hD, hb50⟩
     replace hLL := hLL.lq hb50
     replace hr5 := hr5.kl hb50
     refine WR_val rfl (rn_assign) (WR_nil (thenN (W_seq (W_seq (W_region (WR_val rfl (rn_fieldAddr (off := 2) (by kernel_rfl) rfl) ?_))))))
     refine WR_val rfl (rn_load rfl (Ld.row1 hr5 (by kernel_rfl) rfl)) ?_
     refine WR_val rfl (rn_lss rfl rfl) ?_
     refine WR_nil (thenN ?_)
     refine W_ifp rfl (fun hneg => ?_) (fun hneg => ?_)
     ·
      refine W_seq (W_region (WR_val rfl (rn_move) ?_))
      refine WR_val rfl (rn_eql rfl rfl) ?_
      refine WR_val rfl (rn_assign) (WR_nil (thenN (W_ret (thenR (blockR (thenR ?_))))))
      refine ret_ret [_] ⟨rfl, trivial⟩ ?_
      have e : doD D a = fuseA D a.n := by rw [doD, if_neg hk1, if_neg hk2, if_pos hk3]
      have e2 : fuseA D a.n = D := by rw [fuseA, if_neg (by omega)]
      rw [e, e2]
      rw [e2] at hD
      refine ⟨?_, hD.weak (fun b hb => List.mem_cons_of_mem _ hb), hLL⟩
      show Value.bool (decide ((if 0 ≤ a.n then (0 : Int) else 2) = 2)) = _
      rw [if_neg (by omega)]; rfl
     ·
      have e : doD D a = fuseA D a.n := by rw [doD, if_neg hk1, if_neg hk2, if_pos hk3]
      have hobt := uRow hD
      obtain ⟨pv, ov, cv, hrh⟩ := hobt
      have hrh0 := hrh
      have hLL0 := hLL
      refine W_skip (thenN (W_seq (W_region (WR_val rfl (rn_move) (WR_val rfl (rn_fieldAddr (off := 2) (by kernel_rfl) rfl) ?_)))))
      refine WR_val rfl (rn_load rfl (Ld.row1 hr5 (by kernel_rfl) rfl)) ?_
      refine WR_val rfl (rn_nilCheckP rfl) (WR_val rfl (rn_fieldAddr (off := 1) (by kernel_rfl) rfl) ?_)
      have hDs := hD
      have hLs := hLL0
      refine WR_sk rfl (sk_store1 rfl rfl rfl rfl hrh (by kernel_rfl) (by first | (simp only [List.length_replicate]; omega) | (simp only [iv_length]; omega) | (simp only [bv_length, List.length_set]; omega) | simp) (fun w901 hrh ho901 => ?_))
      refine WR_nil (thenN (W_seq (W_region (WR_val rfl (rn_move) ?_))))
      refine WR_val rfl (rn_eql rfl rfl) ?_
      refine WR_val rfl (rn_assign) (WR_nil (thenN (W_ret (blockR (thenR ?_)))))
      refine ret_ret [_] ⟨rfl, trivial⟩ ?_
      have hu := uLeft hDs hrh0 hrh ho901 ⟨by omega, hn⟩
      rw [e]
      refine ⟨?_, ?_, hLL0.ll hu.2 (fun b hb => List.mem_cons_of_mem _ hb)⟩
      · show Value.bool (decide ((if 0 ≤ a.n then (0 : Int) else 2) = 0)) = _
        rw [if_pos (by omega)]; rfl
      · exact hu.1.weak (fun b hb => List.mem_cons_of_mem _ hb)
    ·
     refine W_seq (W_region ?_)
     refine WR_val rfl (rn_eql rfl rfl) ?_
     refine WR_val rfl (rn_assign) (WR_nil (thenN ?_))
     refine W_ifp rfl (fun hk4 => ?_) (fun hk4 => ?_)
     ·
      refine W_seq (W_region (WR_val rfl (rn_move) (WR_val rfl (rn_fieldAddr (off := 131) (by kernel_rfl) rfl) ?_)))
      refine WR_val rfl (rn_load rfl (ld_acP hr5 hs)) ?_
      have hq1 := hq.kpd0 hLL.kp (fun h0 b o e => notLL (hqb h0 b o e))
      have hq2 : 0 < a.picks.length → ∀ b o, q = some ⟨b, o, none⟩ → b < lo ∨ b ∈ g5 :: L := fun h0 b o e => (hqb h0 b o e).imp id (List.mem_cons_of_mem _)
      refine WR_ent rfl (rn_call (by kernel_rfl) rfl) (uCrash hD _ _ _ _ hq1 hq2) ?_
      rintro _ w68 ⟨_, hD, hb68⟩
      replace hLL := hLL.lq hb68
      replace hr5 := hr5.kl hb68
      refine WR_nil (thenN (W_seq (W_region (WR_val rfl (rn_move) (WR_val rfl (rn_fieldAddr (off := 131) (by kernel_rfl) rfl) ?_)))))
      refine WR_val rfl (rn_load rfl (ld_acP hr5 hs)) ?_
      have hq1 := hq.kpd0 hLL.kp (fun h0 b o e => notLL (hqb h0 b o e))
      refine WR_ent rfl (rn_call (by kernel_rfl) rfl) (tCrash hD _ _ _ _ hq1 hq2) ?_
      rintro _ w72 ⟨rfl, hD, hb72⟩
      replace hLL := hLL.lq hb72
      replace hr5 := hr5.kl hb72
      refine WR_val rfl (rn_eql rfl rfl) ?_
      refine WR_val rfl (rn_assign) (WR_nil (thenN (W_ret (blockR (thenR ?_)))))
      refine ret_ret [_] ⟨rfl, trivial⟩ ?_
      have e : doD D a = crashD D a.picks := by rw [doD, if_neg hk1, if_neg hk2, if_neg hk3, if_pos hk4]
      rw [e]
      exact ⟨rfl, hD.weak (fun b hb => List.mem_cons_of_mem _ hb), hLL⟩
     ·
      have e : doD D a = D := by rw [doD, if_neg hk1, if_neg hk2, if_neg hk3, if_neg hk4]
      rw [e]
      have hobt : ∃ R, (if inD D a.at_ then readD D a.at_.toNat else zeroS) = R := ⟨_, rfl⟩
      obtain ⟨R, hR⟩ := hobt
      have hRl : (bv R).length = 128 := by
        rw [bv_length, ← hR]
        split
        · rename_i hin
          have hobt := inD_nat hin
          obtain ⟨k, hk, hkl⟩ := hobt
          rw [hk, Int.toNat_natCast]
          exact lastS_ok (ver_ok (tOk hD).1 hkl).2.1
        · rw [zeroS, List.length_replicate]
      refine W_seq (W_region ?_)
      refine WR_val rfl (rn_eql rfl rfl) ?_
      refine WR_val rfl (rn_assign) (WR_nil (thenN ?_))
      refine W_ifp rfl (fun hk5 => ?_) (fun hk5 => ?_)
      ·
       refine W_seq (W_region (WR_val rfl (rn_move) (WR_val rfl (rn_fieldAddr (off := 1) (by kernel_rfl) rfl) ?_)))
       refine WR_val rfl (rn_load rfl (Ld.row1 hr5 (by kernel_rfl) rfl)) ?_
       have htr := tRead hD a.at_
       rw [hR] at htr
       refine WR_ent rfl (rn_call (by kernel_rfl) rfl) (htr) ?_
       rintro _ w80 ⟨rfl, hb80⟩
       replace hD := hD.new hb80
       replace hLL := hLL.new hb80
       replace hr5 := hr5.new hb80
       refine WR_val rfl (rn_move) (WR_val rfl (rn_extract rfl rfl) (WR_val rfl (rn_extract rfl rfl) ?_))
       refine WR_mk rfl (mk_alloc (List.replicate 128 (Value.int .u8 0)) (by kernel_rfl) (fun g9 w9 hg9 hr9 hb9 => ?_))
       have lt_g5_g9 : g5 < g9 := Nat.lt_of_lt_of_le hr5.lt hg9
       replace hD := hD.newc hb9 hg9 hr9.lt
       replace hLL := hLL.new hb9
       replace hr5 := hr5.new hb9
       rw [hzb] at hr9
       refine WR_sk rfl (sk_storeA 128 (bv R) rfl rfl hr9 (by kernel_rfl) (by first | assumption | (simp; done) | (simp [bv_length, *]; done)) (by first | assumption | (simp; done) | (simp [bv_length, *]; done) | rfl) (by first | exact bv_one _ | assumption | (simp [Value.oneCell']; done)) (fun w902 hr9 ho902 => ?_))
       replace hD := hD.only ho902 (by first | (right; simp; done) | (left; omega))
       replace hLL := hLL.oq ho902
       replace hr5 := hr5.only ho902 (Nat.ne_of_lt lt_g5_g9)
       refine WR_val rfl (rn_assign) (WR_nil (thenN (W_seq (W_seq (W_region (WR_val rfl (rn_move) (WR_val rfl (rn_fieldAddr (off := 1) (by kernel_rfl) rfl) ?_)))))))
       refine WR_val rfl (rn_load rfl (Ld.row1 hr5 (by kernel_rfl) rfl)) ?_
       refine WR_ent rfl (rn_call (by kernel_rfl) rfl) (uIn hD a.at_) ?_
       rintro _ _ ⟨rfl, rfl⟩
       refine WR_val rfl (rn_not rfl) ?_
       refine WR_nil (thenN ?_)
       refine W_ifnb rfl (fun hin => ?_) (fun hin => ?_)
       ·
        refine W_seq (W_region (WR_val rfl (rn_move) ?_))
        refine WR_val rfl (rn_eql rfl rfl) ?_
        refine WR_val rfl (rn_move) ?_
        refine WR_tp 90 rfl ((by rw [hin]; rfl)) ?_
        refine WR_yes rfl ?_
        refine WR_val rfl (rn_load rfl (Ld.rowA (k := 128) hr9 (by kernel_rfl) (by kernel_rfl) (by first | (simp; done) | (simp [bv_length, *]; done) | assumption))) ?_
        refine WR_yes rfl ?_
        refine WR_val rfl (rn_zeroed (bv Z) (by rw [← hzb]; kernel_rfl)) ?_
        refine WR_yes rfl ?_
        refine WR_val rfl (rn_eqlA (n := 128) (by kernel_rfl) rfl rfl (by rw [← bv_length]; exact hRl) (by rw [← bv_length]; exact hzl)) ?_
        refine WR_val rfl (rn_pick_t rfl) (WR_val rfl (rn_assign) (WR_nil (thenN (W_ret (thenR (blockR (thenR ?_)))))))
        refine ret_ret [_] ⟨rfl, trivial⟩ ?_
        have hRZ : R = Z := by rw [← hR, hin, ← hzz]; rfl
        refine ⟨?_, hD.weak (fun b hb => List.mem_cons_of_mem _ (List.mem_cons_of_mem _ hb)), hLL⟩
        show Value.bool (decide (R = Z)) = _
        rw [decide_eq_true hRZ]
       ·
        have hRe : readD D a.at_.toNat = R := by rw [← hR, hin]; rfl
        refine W_skip (thenN (W_seq ?_))
        refine W_draw' [] (by kernel_rfl) ?_
        intro w903 hb903 hS903
        replace hD := hD.new hb903
        replace hLL := hLL.new hb903
        replace hr5 := hr5.new hb903
        replace hr9 := hr9.new hb903
        have hD_d903 := hD
        have hLL_d903 := hLL
        have hr5_d903 := hr5
        have hr9_d903 := hr9
        refine WA_take 0 (by kernel_rfl) rfl (fun _ _ => rn_move) ?_
        refine WA_take 1 (by kernel_rfl) rfl (fun _ _ => rn_eql rfl rfl) ?_
        refine WA_take 2 (by kernel_rfl) rfl (fun _ _ => rn_move) ?_
        refine WA_tp 97 rfl ((by rw [hin]; rfl)) ?_
        refine WA_take 3 (by kernel_rfl) rfl (fun w' hS' => rn_load rfl (Ld.rowA (k := 128) (hr9_d903.kq hS') (by kernel_rfl) (by kernel_rfl) (by first | (simp; done) | (simp [bv_length, *]; done) | assumption))) ?_
        refine WA_take 4 (by kernel_rfl) rfl (fun _ _ => rn_move) ?_
        refine WA_take 5 (by kernel_rfl) rfl (fun _ _ => rn_fieldAddr (off := 1) (by kernel_rfl) rfl) ?_
        refine WA_take 6 (by kernel_rfl) rfl (fun w' hS' => rn_load rfl (Ld.row1 (hr5_d903.kq hS') (by kernel_rfl) rfl)) ?_
        refine WA_one 7 (by kernel_rfl) ?_
        have hur := uReadI hD a.at_ hin
        rw [hRe] at hur
        refine WO_ent rfl rfl (rn_call (by kernel_rfl) rfl) (hur) ?_
        rintro _ w102 ⟨rfl, hb102⟩
        have hS904 := hS903.add0 hb102
        refine ⟨hS904, ?_⟩
        replace hD := hD.new hb102
        replace hLL := hLL.new hb102
        replace hr5 := hr5.new hb102
        replace hr9 := hr9.new hb102
        refine WA_take 8 (by kernel_rfl) rfl (fun _ _ => rn_eqlA (n := 128) (by kernel_rfl) rfl rfl (by rw [← bv_length]; exact hRl) (by rw [← bv_length]; exact hRl)) ?_
        refine WA_take 9 (by kernel_rfl) rfl (fun _ _ => rn_pick_t rfl) ?_
        refine WA_take 10 (by kernel_rfl) rfl (fun _ _ => rn_assign) ?_
        refine WA_done (by kernel_rfl) ?_
        refine thenN (W_ret (blockR (thenR ?_)))
        refine ret_ret [_] ⟨rfl, trivial⟩ ?_
        refine ⟨?_, hD.weak (fun b hb => List.mem_cons_of_mem _ (List.mem_cons_of_mem _ hb)), hLL⟩
        show Value.bool (decide (R = R)) = _
        rw [decide_eq_true rfl]
      ·
       refine W_skip (blockN (thenN (W_seq (W_region (WR_val rfl (rn_assign) (WR_nil (thenN (W_ret ?_))))))))
       refine ret_ret [_] ⟨rfl, trivial⟩ ?_
       exact ⟨rfl, hD.weak (fun b hb => List.mem_cons_of_mem _ hb), hLL⟩
end Go.Proofs.Ytpndhildmfmcgaa
namespace Coup
open Go Go.RowKit Go.ChangeShapes Go.WideShapes Go.Deep
section
variable {H : Type} {enc : TypeId × Value → H} {P : Program} {W : World} {base : Nat} {spare : Nat → Bool} {held : Bool}
def Opn (enc : TypeId × Value → H) (P : Program) (W : World) (base : Nat) (spare : Nat → Bool) (held : Bool) (e : TypeId) {α : Type} (Q : α → List Value → Prop) : Prop :=
  ∀ fuel cs x, DataW.trod enc P W base spare held fuel e cs = some x → ∃ r, Q r cs
theorem opn_int {e : TypeId} {k : IntKind} (he : P.underlying e = some (.int k)) : Opn enc P W base spare held e (fun (i : Int) cs => cs = [.int k i] ∧ (Lit.int k i).wf = true) := fun fuel cs x h => by
  obtain ⟨n, rfl, _, hw⟩ := DataW.trod_int he h
  exact ⟨n, rfl, hw⟩
theorem opn_bytes {t e : TypeId} {n : Nat} (ht : P.underlying t = some (.array n e)) (he : P.underlying e = some (.int .u8)) (hc : P.cellsOf e = 1) (hC : P.cellsOf t = n) : Opn enc P W base spare held t (fun (l : List UInt8) cs => cs = bv l ∧ l.length = n) :=
  fun fuel cs x h => flat_array ht he hc hC fuel cs x h
def ElsAt {α : Type} (Q : α → List Value → Prop) (W : World) (n : Nat) (p : Option Addr) (len : Nat) (R : List α) : Prop :=
  R.length = len ∧ ∃ cs, SlAt W p len n cs ∧ ∀ (i : Nat) (r : α), R[i]? = some r → Q r ((cs.drop (i * n)).take n)
theorem opn_slice {t e : TypeId} {n : Nat} {α : Type} {Q : α → List Value → Prop} (ht : P.underlying t = some (.slice e)) (hC : P.cellsOf e = n) (hq : Opn enc P W base spare held e Q) :
    Opn enc P W base spare held t (fun (R : List α) cs => ∃ p cp, cs = [.slice p R.length cp] ∧ R.length ≤ cp ∧ ElsAt Q W n p R.length R) := fun fuel cs x h => by
  have hform : ∃ q m cp, cs = [.slice q m cp] := by
    rcases open_slice ht h with ⟨hcs, _⟩ | ⟨a', len', cap', m2, n', D, Pl, hcs, _⟩
    · exact ⟨_, _, _, hcs⟩
    · exact ⟨_, _, _, hcs⟩
  obtain ⟨q, m, cp, rfl⟩ := hform
  obtain ⟨⟨R, cs, h1, h2, h3⟩, h4⟩ := open_elems (enc := enc) (d := x.1) (p := x.2) (n := n) Q ht hC hq ⟨fuel, h⟩
  exact ⟨R, q, cp, by rw [h1], by rw [h1]; exact h4, by rw [h1]; exact ⟨h1, cs, h2, h3⟩⟩
theorem opn_flds {e : TypeId} {fs : Array Field} (hs : P.underlying e = some (.struct fs)) {fuel : Nat} {cs : List Value} {x : DataW H × List MemPlace} (h : DataW.trod enc P W base spare held fuel e cs = some x) :
    cs.length = P.cellsOf e ∧ ∃ m, ∀ (i : Nat) (f : Field), fs[i]? = some f → ∃ y, DataW.trod enc P W base spare held m f.type ((cs.drop f.offset).take (P.cellsOf f.type)) = some y := by
  obtain ⟨xs, m, rfl, _, hl, hx, hel⟩ := DataW.trod_struct hs h
  refine ⟨hl, m, fun i f hi => ?_⟩
  have h0 := hel i f hi
  have hlt : i < xs.length := by
    rw [hx]
    exact (Array.getElem?_eq_some_iff.1 hi).1
  rw [List.getElem?_eq_getElem hlt] at h0
  exact ⟨_, h0⟩
theorem fld {fs : Array Field} {m : Nat} {cs : List Value} (hf : ∀ (i : Nat) (f : Field), fs[i]? = some f → ∃ y, DataW.trod enc P W base spare held m f.type ((cs.drop f.offset).take (P.cellsOf f.type)) = some y) (i o k : Nat) {f : Field} (hi : fs[i]? = some f) (ho : f.offset = o) (hc : P.cellsOf f.type = k) :
    ∃ y, DataW.trod enc P W base spare held m f.type ((cs.drop o).take k) = some y := by
  subst ho; subst hc; exact hf i f hi
theorem opn_arg {t e : TypeId} {n : Nat} {α : Type} {Q : α → List Value → Prop} {a : Option Addr} {len cap : Nat} {d : DataW H} {p : List MemPlace} (ht : P.underlying t = some (.slice e)) (hC : P.cellsOf e = n) (hq : Opn enc P W base spare held e Q)
    (h : DataW.Trod enc P W base spare held t (.slice a len cap) d p) : (∃ R, ElsAt Q W n a len R) ∧ len ≤ cap := by
  obtain ⟨⟨R, cs, h1, h2, h3⟩, h4⟩ := open_elems (n := n) Q ht hC hq h
  exact ⟨⟨R, h1, cs, h2, h3⟩, h4⟩
end
namespace ElsAt
variable {α : Type} {Q Q' : α → List Value → Prop} {w w' : World} {n : Nat} {p : Option Addr} {len : Nat} {R : List α}
theorem some (h : ElsAt Q w n p len R) (h0 : 0 < len * n) : ∃ g o, p = Option.some ⟨g, o, none⟩ ∧ g < w.heap.size := by
  obtain ⟨_, cs, h2, _⟩ := h
  exact h2.some h0
theorem max (h : ElsAt Q w n p len R) : len ≤ maxLen := h.2.choose_spec.1.max
theorem get {i : Nat} (h : ElsAt Q w n p len R) (hi : i < len) : ∃ a, R[i]? = Option.some a := ⟨_, List.getElem?_eq_getElem (by have := h.1; omega)⟩
theorem to (h : ElsAt Q w n p len R) (hb : Below w.heap.size w w') (hq : ∀ r cs, Q r cs → Q' r cs) : ElsAt Q' w' n p len R := by
  obtain ⟨h1, cs, h2, h3⟩ := h
  exact ⟨h1, cs, h2.below hb (Nat.le_refl _), fun i r hi => hq r _ (h3 i r hi)⟩
theorem kpd {M : List Nat} (h : ElsAt Q w n p len R) (k : Kp M w w') (hM : ∀ b o, p = Option.some ⟨b, o, none⟩ → b ∉ M) : ElsAt Q w' n p len R := by
  obtain ⟨h1, cs, h2, h3⟩ := h
  exact ⟨h1, cs, h2.kpd k hM, h3⟩
theorem el {g o i : Nat} {a : α} (h : ElsAt Q w n (Option.some ⟨g, o, none⟩) len R) (hi : R[i]? = Option.some a) : ∃ cs, Q a cs ∧ cs.length = n ∧ ∀ j v, cs[j]? = Option.some v → w.cell? ⟨g, o + i * n + j, none⟩ = Option.some v := by
  obtain ⟨h1, cs, h2, h3⟩ := h
  have hn := (List.getElem?_eq_some_iff.1 hi).1
  have hl := h2.len
  have hle : i * n + n ≤ len * n := by rw [← Nat.succ_mul]; exact Nat.mul_le_mul_right _ (by omega)
  refine ⟨_, h3 i a hi, by rw [List.length_take, List.length_drop]; omega, fun j v hv => ?_⟩
  rw [List.getElem?_take] at hv
  split at hv
  · rw [List.getElem?_drop] at hv
    have := h2.cell _ hv
    rw [Nat.add_assoc]; exact this
  · cases hv
theorem ldB {P : Program} {t g o i : Nat} {a : α} (h : ElsAt Q w n (Option.some ⟨g, o, none⟩) len R) (ht : isRowT P t = true) (hs : sizeIs P t n = true) (hi : R[i]? = Option.some a) : ∃ cs, Q a cs ∧ cs.length = n ∧ ∀ w', Below w.heap.size w w' → Ld P w' t ⟨g, o + i * n, none⟩ (.agg cs.toArray) ∧ ∀ j v, cs[j]? = Option.some v → w'.cell? ⟨g, o + i * n + j, none⟩ = Option.some v := by
  obtain ⟨cs, h1, h2, h3⟩ := h.el hi
  have hlt : 0 < n → g < w.heap.size := fun h0 => by
    have hn := (List.getElem?_eq_some_iff.1 hi).1
    obtain ⟨g', o', e, hl⟩ := h.some (Nat.mul_pos (by have := h.1; omega) h0)
    cases e; exact hl
  refine ⟨cs, h1, h2, fun w' hb => ?_⟩
  have hc : ∀ j v, cs[j]? = Option.some v → w'.cell? ⟨g, o + i * n + j, none⟩ = Option.some v := fun j v hv => by
    have hj := (List.getElem?_eq_some_iff.1 hv).1
    rw [← h3 j v hv]
    simp only [World.cell?, hb.block g (hlt (by omega))]
  exact ⟨Ld.rng hc ht (by rw [h2]; exact hs), hc⟩
end ElsAt
theorem cut_at (cs : List Value) (o k : Nat) : cs.drop o = (cs.drop o).take k ++ cs.drop (o + k) := by
  rw [← List.drop_drop, List.take_append_drop]
theorem el_ints {W : World} {p : Option Addr} {len : Nat} {R : List Int} (h : ElsAt (fun (i : Int) cs => cs = [.int .i64 i] ∧ (Lit.int .i64 i).wf = true) W 1 p len R) : SlAt W p len 1 (iv R) ∧ okI R := by
  obtain ⟨h1, cs, h2, h3⟩ := h
  have hl := h2.len
  refine ⟨?_, fun x hx => ?_⟩
  · have : cs = iv R := by
      refine List.ext_getElem? fun i => ?_
      by_cases hi : i < R.length
      · have := (h3 i _ (List.getElem?_eq_getElem hi)).1
        have := congrArg (fun z => z[0]?) this
        rw [iv_get, List.getElem?_eq_getElem hi]
        simpa [List.getElem?_take, List.getElem?_drop] using this
      · rw [List.getElem?_eq_none (by omega), List.getElem?_eq_none (by rw [iv_length]; omega)]
    rw [← this]; exact h2
  · obtain ⟨i, hi⟩ := List.mem_iff_getElem?.1 hx
    exact i64_of_wf (h3 i x hi).2
end Coup
namespace Go.Proofs.Ytpndhildmfmcgaa
open Go Go.RowKit Coup Go.ChangeShapes Go.WideShapes Go.Deep
def wf64 (i : Int) : Prop := -9223372036854775808 ≤ i ∧ i ≤ 9223372036854775807
def AcQ (W : World) (a : AcT) (cs : List Value) : Prop := ∃ q cp, cs = acC a q cp ∧ a.s.length = 128 ∧ SlAt W q a.picks.length 1 (iv a.picks) ∧ okI a.picks ∧ wf64 a.kind ∧ wf64 a.at_ ∧ wf64 a.n ∧ a.picks.length ≤ cp
theorem acQ_opn {H : Type} {enc : TypeId × Value → H} {W : World} {base : Nat} {spare : Nat → Bool} {held : Bool} : Opn enc Try.prog W base spare held 37 (AcQ W) := fun fuel cs x h => by
  obtain ⟨hl, m, hf⟩ := opn_flds Try.underlying37 h
  have hl2 : cs.length = 132 := hl.trans (by kernel_rfl)
  obtain ⟨_, h0⟩ := fld hf 0 0 1 rfl rfl (by kernel_rfl)
  obtain ⟨_, h1⟩ := fld hf 1 1 1 rfl rfl (by kernel_rfl)
  obtain ⟨_, h2⟩ := fld hf 2 2 1 rfl rfl (by kernel_rfl)
  obtain ⟨_, h3⟩ := fld hf 3 3 128 rfl rfl (by kernel_rfl)
  obtain ⟨_, h4⟩ := fld hf 4 131 1 rfl rfl (by kernel_rfl)
  obtain ⟨a, e0, w0⟩ := opn_int (by kernel_rfl) _ _ _ h0
  obtain ⟨b, e1, w1⟩ := opn_int (by kernel_rfl) _ _ _ h1
  obtain ⟨c, e2, w2⟩ := opn_int (by kernel_rfl) _ _ _ h2
  obtain ⟨s, e3, w3⟩ := opn_bytes (e := 5) (n := 128) (by kernel_rfl) (by kernel_rfl) (by kernel_rfl) (by kernel_rfl) _ _ _ h3
  obtain ⟨R, q, cp, e4, hcp, hR⟩ := opn_slice (e := 3) (n := 1) (by kernel_rfl) (by kernel_rfl) (opn_int (k := .i64) (by kernel_rfl)) _ _ _ h4
  obtain ⟨hR1, hR2⟩ := el_ints hR
  refine ⟨⟨a, b, c, s, R⟩, q, cp, ?_, w3, hR1, hR2, i64_of_wf w0, i64_of_wf w1, i64_of_wf w2, hcp⟩
  have k0 := cut_at cs 0 1
  have k1 := cut_at cs 1 1
  have k2 := cut_at cs 2 1
  have k3 := cut_at cs 3 128
  have k4 := cut_at cs 131 1
  rw [e0] at k0
  rw [e1] at k1
  rw [e2] at k2
  rw [e3] at k3
  rw [e4, List.drop_of_length_le (l := cs) (i := 131 + 1) (by omega), List.append_nil] at k4
  rw [k4] at k3
  rw [k3] at k2
  rw [k2] at k1
  rw [k1] at k0
  rw [List.drop_zero] at k0
  exact k0
theorem openRows {H : Type} {enc : TypeId × Value → H} {W : World} {a : Option Addr} {len cap : Nat} {d : DataW H} {p : List MemPlace} (h : DataW.Trod enc Try.prog W 0 (fun _ => true) true 22 (.slice a len cap) d p) : (∃ R, ElsAt (AcQ W) W 132 a len R) ∧ len ≤ cap :=
  opn_arg (by kernel_rfl) (by kernel_rfl) acQ_opn h
theorem AcQ.below {w w' : World} {a : AcT} {cs : List Value} (h : AcQ w a cs) (hb : Below w.heap.size w w') : AcQ w' a cs := by
  obtain ⟨q, cp, h1, h2, h3, h4⟩ := h
  exact ⟨q, cp, h1, h2, h3.below hb (Nat.le_refl _), h4⟩
abbrev AcsAt (w : World) (p : Option Addr) (n : Nat) (R : List AcT) : Prop := ElsAt (AcQ w) w 132 p n R
theorem acsBelow {w w' : World} {p : Option Addr} {n : Nat} {R : List AcT} (h : AcsAt w p n R) (hb : Below w.heap.size w w') : AcsAt w' p n R := ElsAt.to h hb fun _ _ hq => hq.below hb
def fewA (R : List AcT) (most : Nat) : Prop := R.length ≤ most ∧ ∀ a ∈ R, a.picks.length ≤ 100
set_option maxRecDepth 20000 in
theorem few9 (p : Option Addr) (n cp most : Nat) (R : List AcT) (w : World) (h : AcsAt w p n R) (hm : most ≤ 1000) :
    Calls Try.prog 9 [.slice p n cp, .int .i64 (most : Int)].toArray w (Ret fun v w' => ∃ B : Bool, v = .bool B ∧ (B = true → fewA R most) ∧ w = w') := by
  have hmax := h.max
  have hml : maxLen = 9223372036854775807 := by decide
  have hRl := h.1
  refine calls_W (fn := Try.f9) (rs := [.tmp 4]) (n := 23) Try.func9 rfl rfl Try.ntmps9 (by kernel_rfl) rfl ?_
  refine W_seq (W_region (WR_val rfl (rn_assign) (WR_nil (thenN (W_seq (W_seq (W_region (WR_val rfl (rn_assign) (WR_nil (thenN (W_block ?_)))))))))))
  refine W_loop (α := Nat) 0 (fun i => [(5, .int .i64 (i : Nat)), (0, .slice p n cp), (1, .int .i64 (most : Int))]) (fun i w' => i ≤ n ∧ (∀ (j : Nat) (a : AcT), j < i → R[j]? = some a → a.picks.length ≤ 100) ∧ w = w') (fun i => n - i)
    ⟨rfl, rfl, rfl, rfl⟩ ⟨Nat.zero_le _, (by intro j x hj; exact absurd hj (Nat.not_lt_zero _)), rfl⟩ ?_
  rintro i f wr ⟨hi, hall, rfl⟩
  refine W_seq (W_seq (W_region (WR_val rfl (rn_move) (WR_val rfl (rn_move) ?_))))
  refine WR_val rfl (rn_lenSl (e := 37) (sz := 132) (by kernel_rfl) rfl rfl) ?_
  refine WR_val rfl (rn_lss rfl rfl) ?_
  refine WR_nil (thenN ?_)
  refine W_ifp rfl (fun hlt => ?_) (fun hlt => ?_)
  ·
   refine W_skip (thenN (W_seq (W_block (W_seq ?_))))
   have hobt := h.get (i := i) (by omega)
   obtain ⟨a, hx⟩ := hobt
   have hobt := h.some (by omega)
   obtain ⟨g, o, rfl, hg⟩ := hobt
   have hobt := h.el hx
   obtain ⟨cs, ⟨q, qc, e1, e2, e3, e4⟩, hcl, hcell⟩ := hobt
   have hc := hcell 131 (.slice q a.picks.length qc) (by rw [e1]; show (bv a.s ++ [Value.slice q a.picks.length qc])[128]? = _; rw [List.getElem?_append_right (by rw [bv_length]; omega), bv_length, e2]; rfl)
   refine W_region (WR_val rfl (rn_move) (WR_val rfl (rn_move) ?_))
   refine WR_val rfl (rn_indexSl (e := 37) (sz := 132) (by kernel_rfl) rfl rfl (i) (by omega) (by omega)) ?_
   refine WR_val rfl (rn_fieldAddr (off := 131) (by kernel_rfl) rfl) ?_
   refine WR_val rfl (rn_load rfl (Ld.one (by kernel_rfl) hc)) ?_
   refine WR_val rfl (rn_lenSl (e := 3) (sz := 1) (by kernel_rfl) rfl rfl) ?_
   refine WR_val rfl (rn_gtr rfl rfl) ?_
   refine WR_nil (thenN ?_)
   refine W_ifp rfl (fun hl => ?_) (fun hl => ?_)
   ·
    refine W_seq (W_region (WR_val rfl (rn_assign) (WR_nil (thenN (W_ret (blockR (thenR (loopR (blockR (thenR ?_))))))))))
    refine ret_ret [_] ⟨rfl, trivial⟩ ?_
    exact ⟨false, rfl, (by intro q; cases q), rfl⟩
   ·
    refine W_skip (blockN (thenN (W_region (WR_val rfl (rn_move) ?_))))
    refine WR_val rfl (rn_add rfl rfl (Coup.w64 (by omega))) ?_
    refine WR_val rfl (rn_assign) (WR_nil ?_)
    refine loopN ⟨i + 1, by omega, ⟨by go_num, rfl, rfl, rfl⟩, by omega, ?_, rfl⟩
    intro j x hj hx'
    rcases Nat.lt_or_ge j i with h1 | h1
    · exact hall j x h1 hx'
    · obtain rfl : j = i := by omega
      rw [hx] at hx'; cases hx'
      omega
  ·
   refine W_exit (thenX (loopX (blockX (thenN (W_seq (W_region (WR_val rfl (rn_move) ?_)))))))
   refine WR_val rfl (rn_lenSl (e := 37) (sz := 132) (by kernel_rfl) rfl rfl) ?_
   refine WR_val rfl (rn_move) ?_
   refine WR_val rfl (rn_leq rfl rfl) ?_
   refine WR_val rfl (rn_assign) (WR_nil (thenN (W_ret ?_)))
   refine ret_ret [_] ⟨rfl, trivial⟩ ?_
   refine ⟨_, rfl, fun hd => ?_, rfl⟩
   have := of_decide_eq_true hd
   refine ⟨by omega, fun a ha => ?_⟩
   have hobt := List.getElem?_of_mem ha
   obtain ⟨j, hj⟩ := hobt
   exact hall j a (by have := (List.getElem?_eq_some_iff.1 hj).1; omega) hj
set_option maxRecDepth 20000 in
theorem begin12 (n : Nat) (w : World) (h1 : 1 ≤ n) (h2 : n ≤ 8192) :
    Calls Try.prog 12 [.int .i64 (n : Int)].toArray w (Ret fun v w' => ∃ g h, v = .tuple #[.pointer (some ⟨g, 0, none⟩), .pointer (some ⟨h, 0, none⟩), .bool true] ∧ Two (DZ g (newD n)) (RZ h (newD n)) w.heap.size [] w' ∧ Below w.heap.size w w') := by
  have hB := Below.refl w.heap.size w
  refine calls_W (fn := Try.f12) (rs := [.tmp 2, .tmp 3, .tmp 4]) (n := 21) Try.func12 rfl rfl Try.ntmps12 (by kernel_rfl) rfl ?_
  refine W_seq (W_region (WR_val rfl (rn_assign) (WR_val rfl (rn_assign) (WR_val rfl (rn_assign) (WR_nil (thenN (W_seq (W_region (WR_val rfl (rn_move) ?_)))))))))
  refine WR_ent rfl (rn_call (by kernel_rfl) rfl) (newC n h1 h2) ?_
  rintro _ w9 ⟨g, B, rfl, hX, hBlo, hb9⟩
  replace hB := hB.acc hb9
  have hD : Two (DZ g (newD n)) None w.heap.size [] w9 := Two.one hX (fun b hb => ⟨hBlo b hb, by simp⟩) hB.size (by simp)
  have hDw := hD
  refine WR_val rfl (rn_move) (WR_val rfl (rn_extract rfl rfl) (WR_val rfl (rn_extract rfl rfl) (WR_val rfl (rn_assign) (WR_val rfl (rn_assign) (WR_nil (thenN (W_seq (W_region (WR_val rfl (rn_move) (WR_val rfl (rn_move) ?_))))))))))
  refine WR_ent rfl (rn_call (by kernel_rfl) rfl) (rnew29 n w9 h1 h2) ?_
  rintro _ w14 ⟨h, C, rfl, hY, hClo, hb14⟩
  replace hB := hB.acc hb14
  have hD2 := Two.add (Y := RZ h (newD n)) hD hb14 hY hClo
  refine WR_val rfl (rn_move) ?_
  refine WR_val rfl (rn_eql rfl rfl) ?_
  refine WR_val rfl (rn_move) ?_
  refine WR_tp 17 rfl (rfl) ?_
  refine WR_yes rfl (WR_val rfl (rn_move) (WR_yes rfl ?_))
  refine WR_val rfl (rn_neqP1 (by kernel_rfl) rfl rfl) ?_
  refine WR_val rfl (rn_pick_t rfl) (WR_val rfl (rn_assign) (WR_val rfl (rn_assign) (WR_val rfl (rn_assign) (WR_nil (thenN (W_ret ?_))))))
  refine ret_ret [_, _, _] ⟨rfl, rfl, rfl, trivial⟩ ?_
  exact ⟨g, h, rfl, hD2, hB⟩
end Go.Proofs.Ytpndhildmfmcgaa
namespace Go.Proofs.Ytpndhildmfmcgaa
open Go Go.RowKit Coup
theorem shortD.step {D : Dk} {k : Nat} (h : shortD D k) (a : AcT) (h1 : 1 ≤ k) : shortD (doD D a) (k + 1) := by
  have h0 : shortD D (k + 1) := short_of h (by omega)
  have hset : ∀ (xs : List (Nat × Sec)) (D : Dk), shortD D (k + 1) → shortD (setAll D xs) (k + 1) := by
    intro xs
    induction xs with
    | nil => exact fun D h => h
    | cons x xs ih =>
      intro D h
      refine ih (setV D x.1 [x.2]) fun v hv => ?_
      rcases List.mem_or_eq_of_mem_set hv with e | e
      · exact h v e
      · rw [e]; simp
  unfold doD
  split
  · unfold writeA
    split
    · unfold writeD
      have hs : shortD (stepD D) k := fun v hv => h v (by rw [stepD_V] at hv; exact hv)
      split
      · intro v hv
        rcases List.mem_or_eq_of_mem_set hv with e | e
        · exact Nat.le_trans (hs v e) (by omega)
        · rename_i hin _
          obtain ⟨j, hj, hjl⟩ := inD_nat hin
          rw [e, List.length_append, List.length_singleton, hj, Int.toNat_natCast]
          have := h.ver hjl
          omega
      · exact short_of hs (by omega)
    · exact h0
  · split
    · unfold flushD
      split
      · intro v hv
        obtain ⟨u, _, rfl⟩ := List.mem_map.1 hv
        simp
      · intro v hv
        rw [stepD_V] at hv
        exact h0 v hv
    · split
      · unfold fuseA
        split
        · exact fun v hv => h0 v hv
        · exact h0
      · split
        · exact fun v hv => hset _ D h0 v hv
        · exact h0
def playD (D : Dk) (l : List AcT) : Dk := l.foldl doD D
theorem playD_snoc (D : Dk) (l : List AcT) {k : Nat} {a : AcT} (h : l[k]? = some a) : playD D (l.take (k + 1)) = doD (playD D (l.take k)) a := by
  rw [List.take_add_one, h]; simp [playD, List.foldl_append]
theorem newD_short (n : Nat) : shortD (newD n) 1 := fun v hv => by rw [(List.mem_replicate.1 hv).2]; simp
end Go.Proofs.Ytpndhildmfmcgaa
