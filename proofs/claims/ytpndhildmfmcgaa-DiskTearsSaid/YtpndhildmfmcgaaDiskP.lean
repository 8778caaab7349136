/- The document's disk: what is read, is there such a sector, a step. -/
import Derived.Test.YtpndhildmfmcgaaDiskK
namespace Go.Proofs.Ytpndhildmfmcgaa
open Go Go.RowKit Coup

theorem last_at {v : List Sec} (h : v ≠ []) : v[v.length - 1]? = some (lastS v) := by
  rcases List.eq_nil_or_concat v with rfl | ⟨l, s, rfl⟩
  · exact absurd rfl h
  · rw [List.concat_eq_append, lastS, List.getLastD_concat]
    simp
set_option maxRecDepth 8000 in
theorem rread26 {w : World} {g pv : Nat} {G : List Nat} {D : Dk} {ov cv : Nat} {vs : List Value} (h : RfM w g pv G D ov cv vs) (i : Nat) (hi : i < D.V.length) :
    Calls Try.prog 26 [.pointer (some ⟨g, 0, none⟩), .int .i64 (i : Int)].toArray w (Ret fun v w' => v = .agg (bv (readD D i)).toArray ∧ Below w.heap.size w w') := by
  have hB := Below.refl w.heap.size w
  have hr := h.row
  have hown := h.own
  have hv := ver_ok h.ok hi
  have hn8 := h.ok.n
  have hvp := List.length_pos_iff.2 hv.1
  have hvl := hv.2.2
  have hla := last_at hv.1
  obtain ⟨S, hS⟩ : ∃ S, readD D i = S := ⟨_, rfl⟩
  have hSl : (bv S).length = 128 := by rw [bv_length, ← hS]; exact lastS_ok hv.2.1
  rw [show lastS (ver D i) = S from hS] at hla
  rw [hS]
  obtain ⟨p, c, hvi, hsl, hG⟩ := h.vs.2 i _ (ver_at hi)
  obtain ⟨gp, op, rfl, hgp⟩ := hsl.some (by omega)
  obtain ⟨Z, hzz, hzb, hzl⟩ := zeroSQ
  refine calls_W (fn := Try.f26) (rs := [.cell 4 34]) (n := 23) Try.func26 rfl rfl Try.ntmps26 (by kernel_rfl) rfl ?_
  refine W_seq ?_
  refine W_region ?_
  refine WR_mk rfl (mk_alloc (List.replicate 128 (Value.int .u8 0)) (by kernel_rfl) (fun g4 w4 hg4 hr4 hb4 => ?_))
  have ge_hB_g4 := Nat.le_trans hB.size hg4
  have lt_g_g4 : g < g4 := Nat.lt_of_lt_of_le hr.lt hg4
  have lt_pv_g4 : pv < g4 := Nat.lt_of_lt_of_le hown.lt hg4
  replace hr := hr.new hb4
  replace hown := hown.new hb4
  replace hsl := hsl.new hb4
  replace hB := hB.acc hb4
  rw [hzb] at hr4
  refine WR_nil ?_
  refine thenN ?_
  refine W_seq ?_
  refine W_draw' [g4] (by kernel_rfl) ?_
  intro w901 hb901 hS901
  replace hr := hr.new hb901
  replace hown := hown.new hb901
  replace hsl := hsl.new hb901
  replace hr4 := hr4.new hb901
  replace hB := hB.acc hb901
  have hr_d901 := hr
  have hown_d901 := hown
  have hsl_d901 := hsl
  have hr4_d901 := hr4
  have hB_d901 := hB
  refine WA_take 0 (by kernel_rfl) rfl (fun _ _ => rn_move) ?_
  refine WA_take 1 (by kernel_rfl) rfl (fun _ _ => rn_nilCheckP rfl) ?_
  refine WA_take 2 (by kernel_rfl) rfl (fun _ _ => rn_fieldAddr (off := 0) (by kernel_rfl) rfl) ?_
  refine WA_take 3 (by kernel_rfl) rfl (fun w' hS' => rn_load rfl (Ld.row1 (hr_d901.kpd hS' (by first | (simp; done) | (simp; omega) | (simp [*]; done) | exact notLL (Or.inl (by omega)) | exact notLL (Or.inr (by simp)) | exact fun g hm => Nat.le_trans (by omega) (inLL hm).1 | (intro b o e; cases e; exact notLL (Or.inl (by omega))))) (by kernel_rfl) rfl)) ?_
  refine WA_take 4 (by kernel_rfl) rfl (fun _ _ => rn_move) ?_
  refine WA_take 5 (by kernel_rfl) rfl (fun _ _ => rn_indexSl1 (e := 52) (by kernel_rfl) rfl rfl (i) (by omega) (by omega)) ?_
  refine WA_take 6 (by kernel_rfl) rfl (fun w' hS' => rn_load rfl (Ld.sl1 (hown_d901.kpd hS' (by first | (simp; done) | (simp; omega) | (simp [*]; done) | exact notLL (Or.inl (by omega)) | exact notLL (Or.inr (by simp)) | exact fun g hm => Nat.le_trans (by omega) (inLL hm).1 | (intro b o e; cases e; exact notLL (Or.inl (by omega))))).sl (by kernel_rfl) hvi)) ?_
  refine WA_take 7 (by kernel_rfl) rfl (fun _ _ => rn_move) ?_
  refine WA_take 8 (by kernel_rfl) rfl (fun _ _ => rn_nilCheckP rfl) ?_
  refine WA_take 9 (by kernel_rfl) rfl (fun _ _ => rn_fieldAddr (off := 0) (by kernel_rfl) rfl) ?_
  refine WA_take 10 (by kernel_rfl) rfl (fun w' hS' => rn_load rfl (Ld.row1 (hr_d901.kpd hS' (by first | (simp; done) | (simp; omega) | (simp [*]; done) | exact notLL (Or.inl (by omega)) | exact notLL (Or.inr (by simp)) | exact fun g hm => Nat.le_trans (by omega) (inLL hm).1 | (intro b o e; cases e; exact notLL (Or.inl (by omega))))) (by kernel_rfl) rfl)) ?_
  refine WA_take 11 (by kernel_rfl) rfl (fun _ _ => rn_move) ?_
  refine WA_take 12 (by kernel_rfl) rfl (fun _ _ => rn_indexSl1 (e := 52) (by kernel_rfl) rfl rfl (i) (by omega) (by omega)) ?_
  refine WA_take 13 (by kernel_rfl) rfl (fun w' hS' => rn_load rfl (Ld.sl1 (hown_d901.kpd hS' (by first | (simp; done) | (simp; omega) | (simp [*]; done) | exact notLL (Or.inl (by omega)) | exact notLL (Or.inr (by simp)) | exact fun g hm => Nat.le_trans (by omega) (inLL hm).1 | (intro b o e; cases e; exact notLL (Or.inl (by omega))))).sl (by kernel_rfl) hvi)) ?_
  refine WA_take 14 (by kernel_rfl) rfl (fun _ _ => rn_lenSl (e := 34) (sz := 128) (by kernel_rfl) rfl rfl) ?_
  refine WA_take 15 (by kernel_rfl) rfl (fun _ _ => rn_sub rfl rfl (Coup.w64 (by omega))) ?_
  refine WA_take 16 (by kernel_rfl) rfl (fun _ _ => rn_indexSl (e := 34) (sz := 128) (by kernel_rfl) rfl rfl ((ver D i).length - 1) (by omega) (by omega)) ?_
  refine WA_take 17 (by kernel_rfl) rfl (fun w' hS' => rn_load rfl (ld_sec (hsl_d901.kpd hS' (by first | (simp; done) | (simp; omega) | (simp [*]; done) | exact notLL (Or.inl (by omega)) | exact notLL (Or.inr (by simp)) | exact fun g hm => Nat.le_trans (by omega) (inLL hm).1 | (intro b o e; cases e; exact notLL (Or.inl (by omega))))) hv.2.1 hla)) ?_
  refine WA_one 18 (by kernel_rfl) ?_
  refine WO_sk rfl rfl (sk_storeA 128 (bv S) rfl rfl hr4 (by kernel_rfl) (by first | assumption | (simp; done) | (simp [bv_length, *]; done)) (by first | assumption | (simp; done) | (simp [bv_length, *]; done) | rfl) (by first | exact bv_one _ | assumption | (simp [Value.oneCell']; done)) (fun w903 hr4 ho903 => ?_))
  have hS902 := hS901.add1 ho903 (by first | (left; omega) | (right; simp; done) | (right; simp; omega))
  refine ⟨hS902, ?_⟩
  replace hr := hr.only ho903 (Nat.ne_of_lt lt_g_g4)
  replace hown := hown.only ho903 (Nat.ne_of_lt lt_pv_g4)
  replace hsl := hsl.only ho903 (by omega)
  replace hB := ho903.below hB ge_hB_g4
  refine WA_done (by kernel_rfl) ?_
  refine thenN ?_
  refine W_ret ?_
  refine ret_ret [_] ⟨⟨_, rfl, Ld.rowA (k := 128) hr4 (by kernel_rfl) (by kernel_rfl) (by first | (simp; done) | (simp [bv_length, *]; done) | assumption)⟩, trivial⟩ ?_
  exact ⟨rfl, hB⟩
theorem rin30 {w : World} {g pv : Nat} {G : List Nat} {D : Dk} {ov cv : Nat} {vs : List Value} (h : RfM w g pv G D ov cv vs) (i : Int) :
    Calls Try.prog 30 [.pointer (some ⟨g, 0, none⟩), .int .i64 i].toArray w (Ret fun v w' => v = .bool (inD D i) ∧ w = w') := by
  have hr := h.row
  refine calls_W (fn := Try.f30) (rs := [.tmp 4]) (n := 16) Try.func30 rfl rfl Try.ntmps30 (by kernel_rfl) rfl ?_
  refine W_seq ?_
  refine W_region ?_
  refine WR_val rfl (rn_assign) ?_
  refine WR_nil ?_
  refine thenN ?_
  refine W_seq ?_
  refine W_region ?_
  refine WR_val rfl (rn_move) ?_
  refine WR_val rfl (rn_geq rfl rfl) ?_
  refine WR_val rfl (rn_move) ?_
  refine WR_part 7 rfl (fun h0 => ?_) (fun h0 => ?_)
  ·
    refine WR_yes rfl ?_
    refine WR_val rfl (rn_move) ?_
    refine WR_yes rfl ?_
    refine WR_val rfl (rn_move) ?_
    refine WR_yes rfl ?_
    refine WR_val rfl (rn_nilCheckP rfl) ?_
    refine WR_yes rfl ?_
    refine WR_val rfl (rn_fieldAddr (off := 0) (by kernel_rfl) rfl) ?_
    refine WR_yes rfl ?_
    refine WR_val rfl (rn_load rfl (Ld.row1 hr (by kernel_rfl) rfl)) ?_
    refine WR_yes rfl ?_
    refine WR_val rfl (rn_lenSl (e := 52) (sz := 1) (by kernel_rfl) rfl rfl) ?_
    refine WR_yes rfl ?_
    refine WR_val rfl (rn_lss rfl rfl) ?_
    refine WR_val rfl (rn_pick_t rfl) ?_
    refine WR_val rfl (rn_assign) ?_
    refine WR_nil ?_
    refine thenN ?_
    refine W_ret ?_
    refine ret_ret [_] ⟨rfl, trivial⟩ ?_
    exact ⟨by show Value.bool _ = _; congr 1; unfold inD; by_cases h1 : i < D.V.length <;> simp [h0, h1], rfl⟩
  ·
    refine WR_no rfl rfl ?_
    refine WR_no rfl rfl ?_
    refine WR_no rfl rfl ?_
    refine WR_no rfl rfl ?_
    refine WR_no rfl rfl ?_
    refine WR_no rfl rfl ?_
    refine WR_no rfl rfl ?_
    refine WR_val rfl (rn_pick_f rfl) ?_
    refine WR_val rfl (rn_assign) ?_
    refine WR_nil ?_
    refine thenN ?_
    refine W_ret ?_
    refine ret_ret [_] ⟨rfl, trivial⟩ ?_
    exact ⟨by show Value.bool _ = _; congr 1; unfold inD; rw [decide_eq_false (by omega)], rfl⟩
theorem RfM.turn {w w' : World} {g pv : Nat} {G : List Nat} {D : Dk} {ov cv : Nat} {vs : List Value} (h : RfM w g pv G D ov cv vs) (ho : Only g w w') {left' : Int} {dead' : Bool}
    (hr : Coup.row w' g [.slice (some ⟨pv, ov, none⟩) D.V.length cv, .int .i64 left', .bool dead'] 58) (hl : -1 ≤ left' ∧ left' ≤ 9223372036854775807) : RfM w' g pv G { D with left := left', dead := dead' } ov cv vs := by
  have k := Kp.of_only ho
  exact ⟨hr, h.own.kpd k (by simpa using Ne.symm h.ne.1), h.vs.kpd k fun b hb => by simpa using (h.ne.2 b hb).1, fun b hb => Nat.lt_of_lt_of_le (h.inG b hb) k.size, h.ne, hl, ⟨h.ok.n, h.ok.ne, h.ok.sec, h.ok.short⟩, h.pos⟩
theorem rstep46 {w : World} {g pv : Nat} {G : List Nat} {D : Dk} {ov cv : Nat} {vs : List Value} (h : RfM w g pv G D ov cv vs) :
    Calls Try.prog 46 [.pointer (some ⟨g, 0, none⟩)].toArray w (Ret fun v w' => v = .bool (stepOk D) ∧ RfM w' g pv G (stepD D) ov cv vs ∧ Only g w w') := by
  have hr := h.row
  have hl := h.left
  refine calls_W (fn := Try.f46) (rs := [.tmp 2]) (n := 27) Try.func46 rfl rfl Try.ntmps46 (by kernel_rfl) rfl ?_
  refine W_seq ?_
  refine W_region ?_
  refine WR_val rfl (rn_assign) ?_
  refine WR_nil ?_
  refine thenN ?_
  refine W_seq ?_
  refine W_seq ?_
  refine W_region ?_
  refine WR_val rfl (rn_move) ?_
  refine WR_val rfl (rn_nilCheckP rfl) ?_
  refine WR_val rfl (rn_fieldAddr (off := 1) (by kernel_rfl) rfl) ?_
  refine WR_val rfl (rn_load rfl (Ld.row1 hr (by kernel_rfl) rfl)) ?_
  refine WR_val rfl (rn_eql rfl rfl) ?_
  refine WR_nil ?_
  refine thenN ?_
  refine W_ifp rfl (fun hz => ?_) (fun hz => ?_)
  ·
    refine W_region ?_
    refine WR_val rfl (rn_move) ?_
    refine WR_val rfl (rn_nilCheckP rfl) ?_
    refine WR_val rfl (rn_fieldAddr (off := 2) (by kernel_rfl) rfl) ?_
    refine WR_sk rfl (sk_store1 rfl rfl rfl rfl hr (by kernel_rfl) (by first | (simp only [List.length_replicate]; omega) | (simp only [iv_length]; omega) | (simp only [bv_length, List.length_set]; omega) | simp) (fun w901 hr ho901 => ?_))
    refine WR_nil ?_
    refine thenN ?_
    refine W_seq ?_
    refine W_seq ?_
    refine W_region ?_
    refine WR_val rfl (rn_move) ?_
    refine WR_val rfl (rn_nilCheckP rfl) ?_
    refine WR_val rfl (rn_fieldAddr (off := 2) (by kernel_rfl) rfl) ?_
    refine WR_val rfl (rn_load rfl (Ld.row1 hr (by kernel_rfl) rfl)) ?_
    refine WR_nil ?_
    refine thenN ?_
    refine W_tb rfl (rfl) ?_
    refine W_seq ?_
    refine W_region ?_
    refine WR_val rfl (rn_assign) ?_
    refine WR_nil ?_
    refine thenN ?_
    refine W_ret ?_
    refine thenR ?_
    refine ret_ret [_] ⟨rfl, trivial⟩ ?_
    have hs : stepOk D = false := by unfold stepOk; rw [hz]; simp
    refine ⟨by rw [hs]; rfl, ?_, ho901⟩
    have ht := h.turn ho901 (left' := D.left) (dead' := true) hr hl
    rw [stepD, hs]
    exact ht
  ·
    have hnz : D.left ≠ 0 := hz
    refine W_skip ?_
    refine thenN ?_
    refine W_seq ?_
    refine W_seq ?_
    refine W_region ?_
    refine WR_val rfl (rn_move) ?_
    refine WR_val rfl (rn_nilCheckP rfl) ?_
    refine WR_val rfl (rn_fieldAddr (off := 2) (by kernel_rfl) rfl) ?_
    refine WR_val rfl (rn_load rfl (Ld.row1 hr (by kernel_rfl) rfl)) ?_
    refine WR_nil ?_
    refine thenN ?_
    refine W_if rfl (fun hd => ?_) (fun hd => ?_)
    ·
      refine W_seq ?_
      refine W_region ?_
      refine WR_val rfl (rn_assign) ?_
      refine WR_nil ?_
      refine thenN ?_
      refine W_ret ?_
      refine thenR ?_
      refine ret_ret [_] ⟨rfl, trivial⟩ ?_
      have hs := stepD_dead hd
      exact ⟨by rw [hs.1]; rfl, by rw [hs.2]; exact h, Only.refl _ _⟩
    ·
      have hs : stepOk D = true := by
        unfold stepOk
        rw [hd]
        simp [hnz]
      refine W_skip ?_
      refine thenN ?_
      refine W_seq ?_
      refine W_seq ?_
      refine W_region ?_
      refine WR_val rfl (rn_move) ?_
      refine WR_val rfl (rn_nilCheckP rfl) ?_
      refine WR_val rfl (rn_fieldAddr (off := 1) (by kernel_rfl) rfl) ?_
      refine WR_val rfl (rn_load rfl (Ld.row1 hr (by kernel_rfl) rfl)) ?_
      refine WR_val rfl (rn_gtr rfl rfl) ?_
      refine WR_nil ?_
      refine thenN ?_
      refine W_ifp rfl (fun hgt => ?_) (fun hgt => ?_)
      ·
        refine W_region ?_
        refine WR_val rfl (rn_move) ?_
        refine WR_val rfl (rn_nilCheckP rfl) ?_
        refine WR_val rfl (rn_fieldAddr (off := 1) (by kernel_rfl) rfl) ?_
        refine WR_val rfl (rn_load rfl (Ld.row1 hr (by kernel_rfl) rfl)) ?_
        refine WR_val rfl (rn_sub rfl rfl (Coup.w64 (by omega))) ?_
        refine WR_val rfl (rn_nilCheckP rfl) ?_
        refine WR_val rfl (rn_fieldAddr (off := 1) (by kernel_rfl) rfl) ?_
        refine WR_sk rfl (sk_store1 rfl rfl rfl rfl hr (by kernel_rfl) (by first | (simp only [List.length_replicate]; omega) | (simp only [iv_length]; omega) | (simp only [bv_length, List.length_set]; omega) | simp) (fun w902 hr ho902 => ?_))
        refine WR_nil ?_
        refine thenN ?_
        refine W_seq ?_
        refine W_region ?_
        refine WR_val rfl (rn_assign) ?_
        refine WR_nil ?_
        refine thenN ?_
        refine W_ret ?_
        refine ret_ret [_] ⟨rfl, trivial⟩ ?_
        refine ⟨by rw [hs]; rfl, ?_, ho902⟩
        have ht := h.turn ho902 (left' := D.left - 1) (dead' := D.dead) hr (by omega)
        rw [stepD, hs, if_pos rfl, if_pos hgt]
        exact ht
      ·
        refine W_skip ?_
        refine thenN ?_
        refine W_seq ?_
        refine W_region ?_
        refine WR_val rfl (rn_assign) ?_
        refine WR_nil ?_
        refine thenN ?_
        refine W_ret ?_
        refine ret_ret [_] ⟨rfl, trivial⟩ ?_
        refine ⟨by rw [hs]; rfl, ?_, Only.refl _ _⟩
        rw [stepD, hs, if_pos rfl, if_neg hgt]
        exact h
end Go.Proofs.Ytpndhildmfmcgaa
