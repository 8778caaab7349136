/- Are two disks the same; sectors of one byte; torn ones. -/
import Derived.Test.YtpndhildmfmcgaaDiskH
namespace Go.Proofs.Ytpndhildmfmcgaa
open Go Go.RowKit Coup

def readsD (D : Dk) : List Sec := D.V.map lastS
def sameD (A E : Dk) : Bool := decide (lastsD A = lastsD E ∧ readsD A = readsD E)
theorem reads_at {D : Dk} {i : Nat} (hi : i < D.V.length) : (readsD D)[i]? = some (readD D i) := by
  rw [readsD, List.getElem?_map, ver_at hi]; rfl
theorem lasts_len (D : Dk) : (lastsD D).length = D.V.length := by simp [lastsD]
theorem reads_len (D : Dk) : (readsD D).length = D.V.length := by simp [readsD]
theorem sameD_of {A E : Dk} (hl : A.V.length = E.V.length) (h : ∀ i, i < A.V.length → headS (ver A i) = headS (ver E i) ∧ readD A i = readD E i) : sameD A E = true := by
  refine decide_eq_true ⟨List.ext_getElem? fun i => ?_, List.ext_getElem? fun i => ?_⟩
  · by_cases hi : i < A.V.length
    · rw [lasts_at hi, lasts_at (hl ▸ hi), (h i hi).1]
    · rw [List.getElem?_eq_none (by rw [lasts_len]; omega), List.getElem?_eq_none (by rw [lasts_len]; omega)]
  · by_cases hi : i < A.V.length
    · rw [reads_at hi, reads_at (hl ▸ hi), (h i hi).2]
    · rw [List.getElem?_eq_none (by rw [reads_len]; omega), List.getElem?_eq_none (by rw [reads_len]; omega)]
theorem sameD_not {A E : Dk} {i : Nat} (hi : i < A.V.length) (hl : A.V.length = E.V.length) (h : headS (ver A i) ≠ headS (ver E i) ∨ readD A i ≠ readD E i) : sameD A E = false := by
  refine decide_eq_false fun ⟨h1, h2⟩ => ?_
  have e1 := lasts_at hi
  have e2 := lasts_at (D := E) (hl ▸ hi)
  have e3 := reads_at hi
  have e4 := reads_at (D := E) (hl ▸ hi)
  rw [h1, e2] at e1
  rw [h2, e4] at e3
  rcases h with h | h
  · exact h (Option.some.inj e1).symm
  · exact h (Option.some.inj e3).symm
theorem sameD_len {A E : Dk} (hl : A.V.length ≠ E.V.length) : sameD A E = false := by
  refine decide_eq_false fun ⟨h1, _⟩ => hl ?_
  rw [← lasts_len A, h1, lasts_len]
set_option maxRecDepth 8000 in
set_option maxHeartbeats 1000000 in
theorem same19 {w : World} {g h' pl m pl' m' : Nat} {G G' : List Nat} {A E : Dk} {ol cl ol' cl' : Nat} {st st' : Int} {fu fu' : Bool} {sv sv' : Nat → Value} (hA : DkM w g pl m G A ol cl st fu sv) (hE : DkM w h' pl' m' G' E ol' cl' st' fu' sv') :
    Calls Try.prog 19 [.pointer (some ⟨g, 0, none⟩), .pointer (some ⟨h', 0, none⟩)].toArray w (Ret fun v w' => v = .bool (sameD A E) ∧ Below w.heap.size w w') := by
  have hB := Below.refl w.heap.size w
  have hSA := sectors27 hA
  have hSE := sectors27 hE
  have hn8 := hA.ok.n
  refine calls_W (fn := Try.f19) (rs := [.tmp 4]) (n := 41) Try.func19 rfl rfl Try.ntmps19 (by kernel_rfl) rfl ?_
  refine W_seq ?_
  refine W_region ?_
  refine WR_val rfl (rn_assign) ?_
  refine WR_nil ?_
  refine thenN ?_
  refine W_seq ?_
  refine W_seq ?_
  refine W_region ?_
  refine WR_val rfl (rn_move) ?_
  refine WR_ent rfl (rn_call (by kernel_rfl) rfl) (hSA) ?_
  rintro _ _ ⟨rfl, rfl⟩
  refine WR_val rfl (rn_move) ?_
  refine WR_ent rfl (rn_call (by kernel_rfl) rfl) (hSE) ?_
  rintro _ _ ⟨rfl, rfl⟩
  refine WR_val rfl (rn_neq rfl rfl) ?_
  refine WR_nil ?_
  refine thenN ?_
  refine W_ifp rfl (fun hne => ?_) (fun hne => ?_)
  ·
    refine W_seq ?_
    refine W_region ?_
    refine WR_val rfl (rn_assign) ?_
    refine WR_nil ?_
    refine thenN ?_
    refine W_ret ?_
    refine thenR ?_
    refine ret_ret [_] ⟨rfl, trivial⟩ ?_
    exact ⟨by rw [sameD_len (by omega)]; rfl, hB⟩
  ·
    have hl : A.V.length = E.V.length := by omega
    refine W_skip ?_
    refine thenN ?_
    refine W_seq ?_
    refine W_seq ?_
    refine W_region ?_
    refine WR_val rfl (rn_move) ?_
    refine WR_ent rfl (rn_call (by kernel_rfl) rfl) (hSA) ?_
    rintro _ _ ⟨rfl, rfl⟩
    refine WR_val rfl (rn_move) ?_
    refine WR_nil ?_
    refine thenN ?_
    refine W_block ?_
    refine W_loop (α := Nat) 0 (fun k => [(13, .int .i64 (k : Nat)), (12, .int .i64 (A.V.length : Nat)), (0, .pointer (some ⟨g, 0, none⟩)), (1, .pointer (some ⟨h', 0, none⟩))])
      (fun k w' => k ≤ A.V.length ∧ (∀ j, j < k → headS (ver A j) = headS (ver E j) ∧ readD A j = readD E j) ∧ Below w.heap.size w w') (fun k => A.V.length - k)
      ⟨rfl, rfl, rfl, rfl, rfl⟩ ⟨Nat.zero_le _, (by intro j hj; exact absurd hj (Nat.not_lt_zero _)), hB⟩ ?_
    rintro k f wr ⟨hk, hall, hB⟩
    have hA1 := hA.new hB
    have hE1 := hE.new hB
    refine W_seq ?_
    refine W_region ?_
    refine WR_val rfl (rn_lss rfl rfl) ?_
    refine WR_nil ?_
    refine thenN ?_
    refine W_seq ?_
    refine W_ifp rfl (fun hlt => ?_) (fun hlt => ?_)
    ·
      refine W_skip ?_
      refine thenN ?_
      refine W_seq ?_
      refine W_block ?_
      refine W_seq ?_
      refine W_region ?_
      refine WR_val rfl (rn_move) ?_
      refine WR_val rfl (rn_assign) ?_
      refine WR_nil ?_
      refine thenN ?_
      refine W_seq ?_
      have hr := hA1.row
      have hr' := hE1.row
      have hown := hA1.own
      have hown' := hE1.own
      have hla := lasts_at (D := A) (i := k) (by omega)
      have hle := lasts_at (D := E) (i := k) (by omega)
      have hva := ver_ok hA.ok (i := k) (by omega)
      have hve := ver_ok hE.ok (i := k) (by omega)
      have hal := headS_ok hva.2.1
      have hel := headS_ok hve.2.1
      have hral := lastS_ok hva.2.1
      have hrel := lastS_ok hve.2.1
      have hobt : ∃ a, headS (ver A k) = a := ⟨_, rfl⟩
      obtain ⟨a, ha⟩ := hobt
      have hobt : ∃ e, headS (ver E k) = e := ⟨_, rfl⟩
      obtain ⟨e, he⟩ := hobt
      have hobt : ∃ ra, readD A k = ra := ⟨_, rfl⟩
      obtain ⟨ra, hra⟩ := hobt
      have hobt : ∃ re, readD E k = re := ⟨_, rfl⟩
      obtain ⟨re, hre⟩ := hobt
      have hNA := fun w' (h : DkM w' g pl m G A ol cl st fu sv) => now38 h k (by omega)
      have hNE := fun w' (h : DkM w' h' pl' m' G' E ol' cl' st' fu' sv') => now38 h k (by omega)
      rw [hra] at hNA
      rw [hre] at hNE
      rw [ha] at hla hal
      rw [he] at hle hel
      change (readD A k).length = 128 at hral
      change (readD E k).length = 128 at hrel
      rw [hra] at hral
      rw [hre] at hrel
      refine W_draw' [] (by kernel_rfl) ?_
      intro w901 hb901 hS901
      replace hA1 := hA1.new hb901
      replace hE1 := hE1.new hb901
      replace hr := hr.new hb901
      replace hr' := hr'.new hb901
      replace hown := hown.new hb901
      replace hown' := hown'.new hb901
      replace hB := hB.acc hb901
      have hA1_d901 := hA1
      have hE1_d901 := hE1
      have hr_d901 := hr
      have hr'_d901 := hr'
      have hown_d901 := hown
      have hown'_d901 := hown'
      have hB_d901 := hB
      refine WA_take 0 (by kernel_rfl) rfl (fun _ _ => rn_move) ?_
      refine WA_take 1 (by kernel_rfl) rfl (fun _ _ => rn_nilCheckP rfl) ?_
      refine WA_take 2 (by kernel_rfl) rfl (fun _ _ => rn_fieldAddr (off := 0) (by kernel_rfl) rfl) ?_
      refine WA_take 3 (by kernel_rfl) rfl (fun w' hS' => rn_load rfl (Ld.row1 (hr_d901.kpd hS' (by first | (simp; done) | (simp; omega) | (simp [*]; done) | exact notLL (Or.inl (by omega)) | exact notLL (Or.inr (by simp)) | exact fun g hm => Nat.le_trans (by omega) (inLL hm).1 | (intro b o e; cases e; exact notLL (Or.inl (by omega))))) (by kernel_rfl) rfl)) ?_
      refine WA_take 4 (by kernel_rfl) rfl (fun _ _ => rn_move) ?_
      refine WA_take 5 (by kernel_rfl) rfl (fun _ _ => rn_indexSl (e := 34) (sz := 128) (by kernel_rfl) rfl rfl (k) (by omega) (by omega)) ?_
      refine WA_take 6 (by kernel_rfl) rfl (fun w' hS' => rn_load rfl (ld_sec (hown_d901.kpd hS' (by first | (simp; done) | (simp; omega) | (simp [*]; done) | exact notLL (Or.inl (by omega)) | exact notLL (Or.inr (by simp)) | exact fun g hm => Nat.le_trans (by omega) (inLL hm).1 | (intro b o e; cases e; exact notLL (Or.inl (by omega))))).sl (lasts_ok hA.ok) hla)) ?_
      refine WA_take 7 (by kernel_rfl) rfl (fun _ _ => rn_move) ?_
      refine WA_take 8 (by kernel_rfl) rfl (fun _ _ => rn_nilCheckP rfl) ?_
      refine WA_take 9 (by kernel_rfl) rfl (fun _ _ => rn_fieldAddr (off := 0) (by kernel_rfl) rfl) ?_
      refine WA_take 10 (by kernel_rfl) rfl (fun w' hS' => rn_load rfl (Ld.row1 (hr'_d901.kpd hS' (by first | (simp; done) | (simp; omega) | (simp [*]; done) | exact notLL (Or.inl (by omega)) | exact notLL (Or.inr (by simp)) | exact fun g hm => Nat.le_trans (by omega) (inLL hm).1 | (intro b o e; cases e; exact notLL (Or.inl (by omega))))) (by kernel_rfl) rfl)) ?_
      refine WA_take 11 (by kernel_rfl) rfl (fun _ _ => rn_move) ?_
      refine WA_take 12 (by kernel_rfl) rfl (fun _ _ => rn_indexSl (e := 34) (sz := 128) (by kernel_rfl) rfl rfl (k) (by omega) (by omega)) ?_
      refine WA_take 13 (by kernel_rfl) rfl (fun w' hS' => rn_load rfl (ld_sec (hown'_d901.kpd hS' (by first | (simp; done) | (simp; omega) | (simp [*]; done) | exact notLL (Or.inl (by omega)) | exact notLL (Or.inr (by simp)) | exact fun g hm => Nat.le_trans (by omega) (inLL hm).1 | (intro b o e; cases e; exact notLL (Or.inl (by omega))))).sl (lasts_ok hE.ok) hle)) ?_
      refine WA_take 14 (by kernel_rfl) rfl (fun _ _ => rn_neqA (n := 128) (by kernel_rfl) rfl rfl hal hel) ?_
      refine WA_take 15 (by kernel_rfl) rfl (fun _ _ => rn_move) ?_
      refine WA_partn 31 rfl (fun hna => ?_) (fun hna => ?_)
      ·
        refine WA_skip 16 (by kernel_rfl) rfl ?_
        refine WA_skip 17 (by kernel_rfl) rfl ?_
        refine WA_skip 19 (by kernel_rfl) rfl ?_
        refine WA_skip 20 (by kernel_rfl) rfl ?_
        refine WA_skip 18 (by kernel_rfl) rfl ?_
        refine WA_skip 21 (by kernel_rfl) rfl ?_
        refine WA_skip 22 (by kernel_rfl) rfl ?_
        refine WA_take 23 (by kernel_rfl) rfl (fun _ _ => rn_pick_t rfl) ?_
        refine WA_done (by kernel_rfl) ?_
        refine thenN ?_
        refine W_tb rfl (rfl) ?_
        refine W_seq ?_
        refine W_region ?_
        refine WR_val rfl (rn_assign) ?_
        refine WR_nil ?_
        refine thenN ?_
        refine W_ret ?_
        refine blockR ?_
        refine thenR ?_
        refine loopR ?_
        refine blockR ?_
        refine thenR ?_
        refine ret_ret [_] ⟨rfl, trivial⟩ ?_
        exact ⟨by rw [sameD_not (i := k) (by omega) hl (.inl (by rw [ha, he]; exact hna))]; rfl, hB⟩
      ·
        have hae : headS (ver A k) = headS (ver E k) := by rw [ha, he]; exact hna
        refine WA_take 16 (by kernel_rfl) rfl (fun _ _ => rn_move) ?_
        refine WA_take 17 (by kernel_rfl) rfl (fun _ _ => rn_move) ?_
        refine WA_take 19 (by kernel_rfl) rfl (fun _ _ => rn_move) ?_
        refine WA_take 20 (by kernel_rfl) rfl (fun _ _ => rn_move) ?_
        refine WA_one 18 (by kernel_rfl) ?_
        refine WO_ent rfl rfl (rn_call (by kernel_rfl) rfl) (hNA w901 hA1) ?_
        rintro _ w34 ⟨rfl, hb34⟩
        have hS902 := hS901.add0 hb34
        refine ⟨hS902, ?_⟩
        replace hA1 := hA1.new hb34
        replace hE1 := hE1.new hb34
        replace hr := hr.new hb34
        replace hr' := hr'.new hb34
        replace hown := hown.new hb34
        replace hown' := hown'.new hb34
        replace hB := hB.acc hb34
        refine WA_one 21 (by kernel_rfl) ?_
        refine WO_ent rfl rfl (rn_call (by kernel_rfl) rfl) (hNE w34 hE1) ?_
        rintro _ w37 ⟨rfl, hb37⟩
        have hS903 := hS902.add0 hb37
        refine ⟨hS903, ?_⟩
        replace hA1 := hA1.new hb37
        replace hE1 := hE1.new hb37
        replace hr := hr.new hb37
        replace hr' := hr'.new hb37
        replace hown := hown.new hb37
        replace hown' := hown'.new hb37
        replace hB := hB.acc hb37
        refine WA_take 22 (by kernel_rfl) rfl (fun _ _ => rn_neqA (n := 128) (by kernel_rfl) rfl rfl hral hrel) ?_
        refine WA_take 23 (by kernel_rfl) rfl (fun _ _ => rn_pick_f rfl) ?_
        refine WA_done (by kernel_rfl) ?_
        refine thenN ?_
        refine W_ifn rfl (fun hnr => ?_) (fun hnr => ?_)
        ·
          refine W_seq ?_
          refine W_region ?_
          refine WR_val rfl (rn_assign) ?_
          refine WR_nil ?_
          refine thenN ?_
          refine W_ret ?_
          refine blockR ?_
          refine thenR ?_
          refine loopR ?_
          refine blockR ?_
          refine thenR ?_
          refine ret_ret [_] ⟨rfl, trivial⟩ ?_
          exact ⟨by rw [sameD_not (i := k) (by omega) hl (.inr (by rw [hra, hre]; exact hnr))]; rfl, hB⟩
        ·
          have hrr : readD A k = readD E k := by rw [hra, hre]; exact hnr
          refine W_skip ?_
          refine blockN ?_
          refine thenN ?_
          refine W_region ?_
          refine WR_val rfl (rn_add rfl rfl (Coup.w64 (by omega))) ?_
          refine WR_val rfl (rn_move) ?_
          refine WR_nil ?_
          refine loopN ⟨k + 1, by omega, ⟨by go_num, rfl, rfl, rfl, rfl⟩, by omega, fun j hj => ?_, hB⟩
          rcases Nat.lt_or_ge j k with h1 | h1
          · exact hall j h1
          · obtain rfl : j = k := by omega
            exact ⟨hae, hrr⟩
    ·
      refine W_exit ?_
      refine thenX ?_
      refine loopX ?_
      refine blockX ?_
      refine thenN ?_
      refine W_seq ?_
      refine W_region ?_
      refine WR_val rfl (rn_assign) ?_
      refine WR_nil ?_
      refine thenN ?_
      refine W_ret ?_
      refine ret_ret [_] ⟨rfl, trivial⟩ ?_
      exact ⟨by rw [sameD_of hl (fun i hi => hall i (by omega))]; rfl, hB⟩
theorem same {w : World} {g h' : Nat} {B C : List Nat} {A E : Dk} (hA : DkX w g B A) (hE : DkX w h' C E) :
    Calls Try.prog 19 [.pointer (some ⟨g, 0, none⟩), .pointer (some ⟨h', 0, none⟩)].toArray w (Ret fun v w' => v = .bool (sameD A E) ∧ Below w.heap.size w w') := by
  obtain ⟨pl, m, G, ol, cl, st, fu, sv, rfl, h1, h2⟩ := hA
  obtain ⟨pl', m', G', ol', cl', st', fu', sv', rfl, h3, h4⟩ := hE
  exact same19 h1 h3
/-! ### Sectors of one byte; torn ones -/
def fullS (b : UInt8) : Sec := List.replicate 128 b
theorem full_len (b : UInt8) : (fullS b).length = 128 := List.length_replicate ..
theorem bv_set (l : List UInt8) (i : Nat) (b : UInt8) : (bv l).set i (.int .u8 (b.toNat : Int)) = bv (l.set i b) := by
  rw [bv, bv, List.map_set]; rfl
theorem set_step (b : UInt8) (i : Nat) (hi : i < 128) : (List.replicate i b ++ List.replicate (128 - i) (0 : UInt8)).set i b = List.replicate (i + 1) b ++ List.replicate (128 - (i + 1)) 0 := by
  have e1 : List.replicate (128 - i) (0 : UInt8) = 0 :: List.replicate (128 - (i + 1)) 0 := by rw [show 128 - i = (128 - (i + 1)) + 1 by omega, List.replicate_succ]
  rw [e1, List.set_append_right _ _ (by rw [List.length_replicate]; omega), List.length_replicate, Nat.sub_self, List.set_cons_zero, List.replicate_succ', List.append_assoc]
  rfl
set_option maxRecDepth 8000 in
theorem full28 (b : UInt8) (w : World) : Calls Try.prog 28 [.int .u8 (b.toNat : Int)].toArray w (Ret fun v w' => v = .agg (bv (fullS b)).toArray ∧ Below w.heap.size w w') := by
  have hB := Below.refl w.heap.size w
  obtain ⟨Z, hzz, hzb, hzl⟩ := zeroSQ
  refine calls_W (fn := Try.f28) (rs := [.cell 2 34]) (n := 13) Try.func28 rfl rfl Try.ntmps28 (by kernel_rfl) rfl ?_
  refine W_seq ?_
  refine W_region ?_
  refine WR_mk rfl (mk_alloc (List.replicate 128 (Value.int .u8 0)) (by kernel_rfl) (fun g2 w2 hg2 hr2 hb2 => ?_))
  have ge_hB_g2 := Nat.le_trans hB.size hg2
  replace hB := hB.acc hb2
  rw [hzb] at hr2
  refine WR_nil ?_
  refine thenN ?_
  refine W_seq ?_
  refine W_region ?_
  refine WR_mk rfl (mk_alloc (List.replicate 128 (Value.int .u8 0)) (by kernel_rfl) (fun g3 w3 hg3 hr3 hb3 => ?_))
  have ge_hB_g3 := Nat.le_trans hB.size hg3
  have lt_g2_g3 : g2 < g3 := Nat.lt_of_lt_of_le hr2.lt hg3
  replace hr2 := hr2.new hb3
  replace hB := hB.acc hb3
  rw [hzb] at hr3
  refine WR_nil ?_
  refine thenN ?_
  refine W_seq ?_
  refine W_seq ?_
  refine W_region ?_
  refine WR_val rfl (rn_assign) ?_
  refine WR_nil ?_
  refine thenN ?_
  refine W_block ?_
  have hr3' : row w3 g3 (bv (List.replicate 0 b ++ List.replicate (128 - 0) 0)) 34 := by rw [← hzz] at hr3; exact hr3
  refine W_loop (α := Nat) 0 (fun i => [(4, .int .i64 (i : Nat)), (0, .int .u8 (b.toNat : Int)), (2, .pointer (some ⟨g2, 0, none⟩)), (3, .pointer (some ⟨g3, 0, none⟩))])
    (fun i w' => i ≤ 128 ∧ row w' g2 (bv Z) 34 ∧ row w' g3 (bv (List.replicate i b ++ List.replicate (128 - i) 0)) 34 ∧ Below w.heap.size w w') (fun i => 128 - i)
    ⟨rfl, rfl, rfl, rfl, rfl⟩ ⟨Nat.zero_le _, hr2, hr3', hB⟩ ?_
  clear hr2 hr3 hr3' hB
  rintro i f wr ⟨hi, hr2, hr3, hB⟩
  have hobt : ∃ L, List.replicate i b ++ List.replicate (128 - i) (0 : UInt8) = L := ⟨_, rfl⟩
  obtain ⟨L, hL⟩ := hobt
  have hLl : L.length = 128 := by rw [← hL, List.length_append, List.length_replicate, List.length_replicate]; omega
  have hll : (bv L).length = 128 := by rw [bv_length]; exact hLl
  rw [hL] at hr3
  refine W_seq ?_
  refine W_seq ?_
  refine W_region ?_
  refine WR_val rfl (rn_move) ?_
  refine WR_val rfl (rn_lss rfl rfl) ?_
  refine WR_nil ?_
  refine thenN ?_
  refine W_ifp rfl (fun hlt => ?_) (fun hlt => ?_)
  ·
    refine W_skip ?_
    refine thenN ?_
    refine W_seq ?_
    refine W_block ?_
    refine W_region ?_
    refine WR_val rfl (rn_move) ?_
    refine WR_val rfl (rn_move) ?_
    refine WR_val rfl (rn_indexAr1 (e := 5) (m := 128) (by kernel_rfl) rfl rfl (i) (by omega) (by omega)) ?_
    refine WR_sk rfl (sk_store1 rfl rfl rfl rfl hr3 (by kernel_rfl) (by first | (simp only [List.length_replicate]; omega) | (simp only [iv_length]; omega) | (simp only [bv_length, List.length_set]; omega) | simp) (fun w901 hr3 ho901 => ?_))
    replace hr2 := hr2.only ho901 (Nat.ne_of_lt lt_g2_g3)
    replace hB := ho901.below hB ge_hB_g3
    have hq : row w901 g3 ((bv L).set i (.int .u8 (b.toNat : Int))) 34 := by rw [Nat.zero_add] at hr3; exact hr3
    rw [bv_set, ← hL, set_step b i (by omega)] at hq
    refine WR_nil ?_
    refine blockN ?_
    refine thenN ?_
    refine W_region ?_
    refine WR_val rfl (rn_move) ?_
    refine WR_val rfl (rn_add rfl rfl (Coup.w64 (by omega))) ?_
    refine WR_val rfl (rn_assign) ?_
    refine WR_nil ?_
    refine loopN ⟨i + 1, by omega, ⟨by go_num, rfl, rfl, rfl, rfl⟩, by omega, hr2, hq, hB⟩
  ·
    obtain rfl : i = 128 := by omega
    have hfl : List.replicate 128 b ++ List.replicate (128 - 128) (0 : UInt8) = fullS b := by simp [fullS]
    rw [hfl] at hL
    have hobt : ∃ F, fullS b = F := ⟨_, rfl⟩
    obtain ⟨F, hF⟩ := hobt
    rw [← hL, hF] at hr3 hll
    rw [hF]
    refine W_exit ?_
    refine thenX ?_
    refine loopX ?_
    refine blockX ?_
    refine thenN ?_
    refine W_seq ?_
    refine W_region ?_
    refine WR_val rfl (rn_load rfl (Ld.rowA (k := 128) hr3 (by kernel_rfl) (by kernel_rfl) (by first | (simp; done) | (simp [bv_length, *]; done) | assumption))) ?_
    refine WR_sk rfl (sk_storeA 128 (bv F) rfl rfl hr2 (by kernel_rfl) (by first | assumption | (simp; done) | (simp [bv_length, *]; done)) (by first | assumption | (simp; done) | (simp [bv_length, *]; done) | rfl) (by first | exact bv_one _ | assumption | (simp [Value.oneCell']; done)) (fun w902 hr2 ho902 => ?_))
    replace hr3 := hr3.only ho902 (Nat.ne_of_gt lt_g2_g3)
    replace hB := ho902.below hB ge_hB_g2
    refine WR_nil ?_
    refine thenN ?_
    refine W_ret ?_
    refine ret_ret [_] ⟨⟨_, rfl, Ld.rowA (k := 128) hr2 (by kernel_rfl) (by kernel_rfl) (by first | (simp; done) | (simp [bv_length, *]; done) | assumption)⟩, trivial⟩ ?_
    exact ⟨rfl, hB⟩
end Go.Proofs.Ytpndhildmfmcgaa
