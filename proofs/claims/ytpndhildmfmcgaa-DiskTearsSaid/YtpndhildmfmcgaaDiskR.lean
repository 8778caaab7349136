/- The document's disk: Flush, Open. -/
import Derived.Test.YtpndhildmfmcgaaDiskQ
namespace Go.Proofs.Ytpndhildmfmcgaa
open Go Go.RowKit Coup

def flXs (D : Dk) : List (Nat × Sec) := (List.range D.V.length).map fun i => (i, readD D i)
theorem flXs_at {D : Dk} {k : Nat} (h : k < D.V.length) : (flXs D)[k]? = some (k, readD D k) := by
  rw [flXs, List.getElem?_map, List.getElem?_range h]; rfl
theorem flXs_keys (D : Dk) : (flXs D).map (·.1) = List.range D.V.length := by
  rw [flXs, List.map_map]
  show (List.range D.V.length).map (fun i => i) = _
  exact List.map_id' _
theorem flXs_len (D : Dk) : (flXs D).length = D.V.length := by simp [flXs]
theorem flXs_fresh {D : Dk} {k : Nat} (h : k < D.V.length) : ver (setAll D ((flXs D).take k)) k = ver D k := by
  refine ver_setAll _ D k (fun p hp => ?_) fun p hp e => ?_
  · obtain ⟨i, hi, rfl⟩ := List.mem_map.1 (List.mem_of_mem_take hp)
    exact List.mem_range.1 hi
  · obtain ⟨j, hj⟩ := List.getElem?_of_mem hp
    rw [List.getElem?_take] at hj
    split at hj
    · rename_i hjk
      rw [flXs_at (by omega)] at hj
      cases hj
      simp at e
      omega
    · cases hj
theorem flush_all (D : Dk) : setAll D (flXs D) = { D with V := D.V.map fun v => [lastS v] } := by
  have hl := setAll_left D (flXs D)
  refine Dk.ext' (V_ext ?_ fun i hi => ?_) hl.1 hl.2
  · rw [setAll_len]; simp
  · rw [setAll_len] at hi
    have e : ver { D with V := D.V.map fun v => [lastS v] } i = [lastS (ver D i)] := by
      unfold ver
      dsimp only
      rw [List.getD_eq_getElem?_getD, List.getElem?_map, ver_at hi]; rfl
    rw [e]
    refine ver_setAll_mem _ D i _ (fun p hp => ?_) ?_ (List.mem_of_getElem? (flXs_at hi))
    · obtain ⟨i, hi, rfl⟩ := List.mem_map.1 hp
      exact List.mem_range.1 hi
    · rw [flXs_keys]; exact List.nodup_range
set_option maxRecDepth 8000 in
set_option maxHeartbeats 1000000 in
theorem rflush33 {w : World} {g pv : Nat} {G : List Nat} {D : Dk} {ov cv : Nat} {vs : List Value} (h : RfM w g pv G D ov cv vs) :
    Calls Try.prog 33 [.pointer (some ⟨g, 0, none⟩)].toArray w
      (Ret fun v w' => v = .bool (stepOk D) ∧ (∃ G' vs', RfM w' g pv G' (flushD D) ov cv vs' ∧ ∀ b ∈ G', b ∈ G ∨ w.heap.size ≤ b) ∧ Kp [g, pv] w w') := by
  have hst := rstep46 h
  have hK := KpB.refl [g, pv] w
  have hne0 := h.ne.1
  have hml : maxLen = 9223372036854775807 := by decide
  obtain ⟨ok, hok⟩ : ∃ ok, stepOk D = ok := ⟨_, rfl⟩
  obtain ⟨D1, hD1⟩ : ∃ D1, stepD D = D1 := ⟨_, rfl⟩
  have hV1 : D1.V = D.V := by rw [← hD1]; exact stepD_V D
  have hlg := h.row.lt
  have hlp := h.own.lt
  have hn8 := h.ok.n
  rw [← hV1] at hn8
  rw [flushD, ← stepD_V, hD1, ← flush_all D1]
  rw [hok, hD1] at hst
  rw [hok]
  refine calls_W (fn := Try.f33) (rs := [.tmp 2]) (n := 26) Try.func33 rfl rfl Try.ntmps33 (by kernel_rfl) rfl ?_
  refine W_seq ?_
  refine W_region ?_
  refine WR_val rfl (rn_assign) ?_
  refine WR_nil ?_
  refine thenN ?_
  refine W_seq ?_
  refine W_seq ?_
  refine W_region ?_
  refine WR_val rfl (rn_move) ?_
  refine WR_ent rfl (rn_call (by kernel_rfl) rfl) (hst) ?_
  rintro _ w5 ⟨rfl, h1, hb5⟩
  replace hK := hK.only hb5 (by simp)
  refine WR_val rfl (rn_not rfl) ?_
  refine WR_nil ?_
  refine thenN ?_
  refine W_ifnb rfl (fun hne => ?_) (fun hne => ?_)
  ·
    refine W_seq ?_
    refine W_region ?_
    refine WR_val rfl (rn_assign) ?_
    refine WR_nil ?_
    refine thenN ?_
    refine W_ret ?_
    refine thenR ?_
    refine ret_ret [_] ⟨rfl, trivial⟩ ?_
    have hk0 : ok = false := by cases ok with | false => rfl | true => simp at hne
    refine ⟨by rw [hk0]; rfl, ⟨G, vs, by rw [hk0]; exact h1, fun b hb => .inl hb⟩, hK.k⟩
  ·
    have hk1 : ok = true := by cases ok with | true => rfl | false => simp at hne
    rw [hk1, if_pos rfl]
    have hobt : ∃ X, flXs D1 = X := ⟨_, rfl⟩
    obtain ⟨X, hX⟩ := hobt
    rw [hX]
    have hXl : X.length = D1.V.length := by rw [← hX, flXs_len]
    refine W_skip ?_
    refine thenN ?_
    refine W_seq ?_
    refine W_seq ?_
    refine W_region ?_
    refine WR_val rfl (rn_assign) ?_
    refine WR_nil ?_
    refine thenN ?_
    refine W_block ?_
    refine W_loop (α := Nat) 0 (fun k => [(3, .int .i64 (k : Nat)), (0, .pointer (some ⟨g, 0, none⟩))])
      (fun k w' => k ≤ D1.V.length ∧ (∃ G' vs', RfM w' g pv G' (setAll D1 (X.take k)) ov cv vs' ∧ ∀ b ∈ G', b ∈ G ∨ w.heap.size ≤ b) ∧ KpB [g, pv] w w') (fun k => D1.V.length - k)
      ⟨rfl, rfl, rfl⟩ ⟨Nat.zero_le _, ⟨G, vs, h1, fun b hb => .inl hb⟩, hK⟩ ?_
    clear hK
    rintro k f wr ⟨hk, ⟨G', vs', hM, hG'⟩, hK⟩
    have hVl := setAll_len D1 (X.take k)
    have hr := hM.row
    have hown := hM.own
    rw [hVl] at hr hown
    refine W_seq ?_
    refine W_seq ?_
    refine W_region ?_
    refine WR_val rfl (rn_move) ?_
    refine WR_val rfl (rn_move) ?_
    refine WR_val rfl (rn_nilCheckP rfl) ?_
    refine WR_val rfl (rn_fieldAddr (off := 0) (by kernel_rfl) rfl) ?_
    refine WR_val rfl (rn_load rfl (Ld.row1 hr (by kernel_rfl) rfl)) ?_
    refine WR_val rfl (rn_lenSl (e := 52) (sz := 1) (by kernel_rfl) rfl rfl) ?_
    refine WR_val rfl (rn_lss rfl rfl) ?_
    refine WR_nil ?_
    refine thenN ?_
    refine W_ifp rfl (fun hlt => ?_) (fun hlt => ?_)
    ·
      refine W_skip ?_
      refine thenN ?_
      refine W_seq ?_
      refine W_block ?_
      have hXk : X[k]? = some (k, readD D1 k) := by rw [← hX]; exact flXs_at (by omega)
      have hrd : readD (setAll D1 (X.take k)) k = readD D1 k := by rw [readD, ← hX, flXs_fresh (by omega)]; rfl
      have hl128 : (readD D1 k).length = 128 := lastS_ok (ver_ok h1.ok (by omega)).2.1
      have hsn := setAll_snoc D1 X hXk
      have hvl := hM.vs.1
      have q1 := hK.k.size
      have q2 := hr.lt
      have q3 := hown.lt
      have q4 := hown.len
      have hobt : ∃ S, readD D1 k = S := ⟨_, rfl⟩
      obtain ⟨S, hS⟩ := hobt
      rw [hS] at hrd hl128 hsn
      have hS2 : (bv S).length = 128 := by rw [bv_length]; exact hl128
      refine W_draw' [pv] (by kernel_rfl) ?_
      intro w901 hb901 hS901
      replace hK := hK.new hb901
      replace hM := hM.new hb901
      replace hr := hr.new hb901
      replace hown := hown.new hb901
      have hK_d901 := hK
      have hM_d901 := hM
      have hr_d901 := hr
      have hown_d901 := hown
      refine WA_take 0 (by kernel_rfl) rfl (fun _ _ => rn_move) ?_
      refine WA_take 1 (by kernel_rfl) rfl (fun _ _ => rn_nilCheckP rfl) ?_
      refine WA_take 2 (by kernel_rfl) rfl (fun _ _ => rn_fieldAddr (off := 0) (by kernel_rfl) rfl) ?_
      refine WA_take 3 (by kernel_rfl) rfl (fun w' hS' => rn_load rfl (Ld.row1 (hr_d901.kpd hS' (by first | (simp; done) | (simp; omega) | (simp [*]; done) | exact notLL (Or.inl (by omega)) | exact notLL (Or.inr (by simp)) | exact fun g hm => Nat.le_trans (by omega) (inLL hm).1 | (intro b o e; cases e; exact notLL (Or.inl (by omega))))) (by kernel_rfl) rfl)) ?_
      refine WA_take 4 (by kernel_rfl) rfl (fun _ _ => rn_move) ?_
      refine WA_take 5 (by kernel_rfl) rfl (fun _ _ => rn_move) ?_
      refine WA_take 6 (by kernel_rfl) rfl (fun _ _ => rn_move) ?_
      refine WA_one 7 (by kernel_rfl) ?_
      have hrd2 := rread26 hM k (by omega)
      rw [hrd] at hrd2
      refine WO_ent rfl rfl (rn_call (by kernel_rfl) rfl) (hrd2) ?_
      rintro _ w23 ⟨rfl, hb23⟩
      have hS902 := hS901.add0 hb23
      refine ⟨hS902, ?_⟩
      replace hK := hK.new hb23
      replace hM := hM.new hb23
      replace hr := hr.new hb23
      replace hown := hown.new hb23
      refine WA_one 8 (by kernel_rfl) ?_
      have q7 := hK.k.size
      refine WO_mk rfl rfl (mk_one (e := 34) (.agg (bv S).toArray) (bv S) (List.replicate 128 (Value.int .u8 0)) 128 (by kernel_rfl) (by kernel_rfl) rfl rfl (by first | rfl | (simp; done) | (simp [bv_length, *]; done)) ⟨by decide, by decide⟩ (fun g24 w24 hg24 hr24 hb24 => ?_))
      have hS903 := hS902.add0 hb24
      refine ⟨hS903, ?_⟩
      have ge_hS902_g24 := Nat.le_trans hS902.size hg24
      have lt_g_g24 : g < g24 := Nat.lt_of_lt_of_le hr.lt hg24
      have lt_pv_g24 : pv < g24 := Nat.lt_of_lt_of_le hown.lt hg24
      replace hK := hK.new hb24
      replace hM := hM.new hb24
      replace hr := hr.new hb24
      replace hown := hown.new hb24
      refine WA_take 9 (by kernel_rfl) rfl (fun _ _ => rn_indexSl1 (e := 52) (by kernel_rfl) rfl rfl (k) (by omega) (by omega)) ?_
      refine WA_one 10 (by kernel_rfl) ?_
      have hs24 := hr24.slA (m := 1) (sz := 128) hS2 (by omega)
      have hM6 := hM
      have q6 := hr24.lt
      refine WO_sk rfl rfl (sk_storeO ([.slice (some ⟨g24, 0, none⟩) 1 1]) (k) hown rfl rfl (by kernel_rfl) (by first | (simp only [iv_length, List.length_cons, List.length_nil]; omega) | omega | (simp; omega)) (by simp [Value.oneCell']) (fun w905 hown ho905 => ?_))
      have hS904 := hS903.add1 ho905 (by first | (left; omega) | (right; simp; done) | (right; simp; omega))
      refine ⟨hS904, ?_⟩
      replace hK := hK.only ho905 (by simp)
      replace hr := hr.only ho905 (by omega)
      replace hr24 := hr24.only ho905 (Nat.ne_of_gt lt_pv_g24)
      refine WA_done (by kernel_rfl) ?_
      refine blockN ?_
      refine thenN ?_
      refine W_region ?_
      refine WR_val rfl (rn_move) ?_
      refine WR_val rfl (rn_add rfl rfl (Coup.w64 (by omega))) ?_
      refine WR_val rfl (rn_assign) ?_
      refine WR_nil ?_
      rw [splice_one _ _ _ (by omega), ← hVl] at hown
      have hx := rf_set (v := [S]) (c := 1) hM6 (Kp.of_only ho905) (by omega) hown ((show SlAt _ _ _ 128 (bv [S].flatten) by simpa using hs24).only ho905 (by omega)) ⟨by omega, by omega⟩ (by have := (Kp.of_only ho905).size; omega) (by simp) (fun x hx => by rw [List.mem_singleton.1 hx]; exact hl128) (by simp)
      dsimp only at hsn
      rw [← hsn] at hx
      refine loopN ⟨k + 1, by omega, ⟨by go_num, rfl, rfl⟩, by omega, ⟨_, _, hx, fun b hb => ?_⟩, hK⟩
      rcases List.mem_cons.1 hb with rfl | hb
      · right; omega
      · exact hG' b hb
    ·
      have hkl : k = D1.V.length := by omega
      rw [hkl, List.take_of_length_le (by omega)] at hM
      refine W_exit ?_
      refine thenX ?_
      refine loopX ?_
      refine blockX ?_
      refine thenN ?_
      refine W_seq ?_
      refine W_region ?_
      refine WR_val rfl (rn_assign) ?_
      refine WR_nil ?_
      refine thenN ?_
      refine W_ret ?_
      refine ret_ret [_] ⟨rfl, trivial⟩ ?_
      exact ⟨rfl, ⟨G', vs', hM, hG'⟩, hK.k⟩
def opP (D : Dk) (k : Nat) : List Nat := (List.range k).filter (openB D)
theorem opP_succ (D : Dk) (k : Nat) : opP D (k + 1) = opP D k ++ (if openB D k then [k] else []) := by
  unfold opP
  rw [List.range_succ, List.filter_append]
  by_cases h : openB D k = true
  · rw [if_pos h, List.filter_cons_of_pos h]; rfl
  · rw [if_neg h, List.filter_cons_of_neg h]; rfl
theorem opP_le (D : Dk) (k : Nat) : (opP D k).length ≤ k := Nat.le_trans (List.length_filter_le _ _) (by rw [List.length_range]; exact Nat.le_refl _)
set_option maxRecDepth 8000 in
set_option maxHeartbeats 1000000 in
theorem ropen35 {w : World} {g pv : Nat} {G : List Nat} {D : Dk} {ov cv : Nat} {vs : List Value} (h : RfM w g pv G D ov cv vs) :
    Calls Try.prog 35 [.pointer (some ⟨g, 0, none⟩)].toArray w
      (Ret fun v w' => ∃ p c, v = .slice p (opI D).length c ∧ SlAt w' p (opI D).length 1 (iv (opI D)) ∧ (∀ b o, p = some ⟨b, o, none⟩ → w.heap.size ≤ b) ∧ Below w.heap.size w w') := by
  have hB := Below.refl w.heap.size w
  have hml : maxLen = 9223372036854775807 := by decide
  have hn8 := h.ok.n
  have hlg := h.row.lt
  have hlp := h.own.lt
  refine calls_W (fn := Try.f35) (rs := [.tmp 2]) (n := 28) Try.func35 rfl rfl Try.ntmps35 (by kernel_rfl) rfl ?_
  refine W_seq ?_
  refine W_region ?_
  refine WR_val rfl (rn_assign) ?_
  refine WR_nil ?_
  refine thenN ?_
  refine W_seq ?_
  refine W_region ?_
  refine WR_val rfl (rn_assign) ?_
  refine WR_nil ?_
  refine thenN ?_
  refine W_seq ?_
  refine W_seq ?_
  refine W_region ?_
  refine WR_val rfl (rn_assign) ?_
  refine WR_nil ?_
  refine thenN ?_
  refine W_block ?_
  refine W_loop (α := Nat × Value) (0, .slice none 0 0) (fun k => [(4, .int .i64 (k.1 : Nat)), (3, k.2), (0, .pointer (some ⟨g, 0, none⟩))])
    (fun k w' => k.1 ≤ D.V.length ∧ ownsAt w' w.heap.size 3 1 k.2 (opP D k.1).length (iv ((opP D k.1).map (fun i : Nat => (i : Int)))) ∧ Below w.heap.size w w') (fun k => D.V.length - k.1)
    ⟨rfl, rfl, rfl, rfl⟩ ⟨Nat.zero_le _, ownsAt_nil _ _ _ _, hB⟩ ?_
  clear hB
  rintro ⟨k, u⟩ f wr ⟨hk, hu, hB⟩
  dsimp only at hk hu ⊢
  have hM := h.new hB
  have hr := hM.row
  have hown := hM.own
  refine W_seq ?_
  refine W_seq ?_
  refine W_region ?_
  refine WR_val rfl (rn_move) ?_
  refine WR_val rfl (rn_move) ?_
  refine WR_val rfl (rn_nilCheckP rfl) ?_
  refine WR_val rfl (rn_fieldAddr (off := 0) (by kernel_rfl) rfl) ?_
  refine WR_val rfl (rn_load rfl (Ld.row1 hr (by kernel_rfl) rfl)) ?_
  refine WR_val rfl (rn_lenSl (e := 52) (sz := 1) (by kernel_rfl) rfl rfl) ?_
  refine WR_val rfl (rn_lss rfl rfl) ?_
  refine WR_nil ?_
  refine thenN ?_
  refine W_ifp rfl (fun hlt => ?_) (fun hlt => ?_)
  ·
    refine W_skip ?_
    refine thenN ?_
    refine W_seq ?_
    refine W_block ?_
    refine W_seq ?_
    have hobt := hM.vs.2 k _ (ver_at (by omega))
    obtain ⟨p, c, hvi, hsl, hG⟩ := hobt
    have hvl := (ver_ok h.ok (i := k) (by omega)).2.2
    refine W_region ?_
    refine WR_val rfl (rn_move) ?_
    refine WR_val rfl (rn_nilCheckP rfl) ?_
    refine WR_val rfl (rn_fieldAddr (off := 0) (by kernel_rfl) rfl) ?_
    refine WR_val rfl (rn_load rfl (Ld.row1 hr (by kernel_rfl) rfl)) ?_
    refine WR_val rfl (rn_move) ?_
    refine WR_val rfl (rn_indexSl1 (e := 52) (by kernel_rfl) rfl rfl (k) (by omega) (by omega)) ?_
    refine WR_val rfl (rn_load rfl (Ld.sl1 hown.sl (by kernel_rfl) hvi)) ?_
    refine WR_val rfl (rn_lenSl (e := 34) (sz := 128) (by kernel_rfl) rfl rfl) ?_
    refine WR_val rfl (rn_gtr rfl rfl) ?_
    refine WR_nil ?_
    refine thenN ?_
    refine W_ifp rfl (fun hop => ?_) (fun hop => ?_)
    ·
      refine W_region ?_
      refine WR_val rfl (rn_move) ?_
      refine WR_val rfl (rn_move) ?_
      refine WR_mk rfl (mk_one (e := 3) (.int .i64 (k : Nat)) ([.int .i64 (k : Nat)]) ([Value.int .i64 0]) 1 (by kernel_rfl) (by kernel_rfl) rfl rfl rfl ⟨by decide, by decide⟩ (fun g25 w25 hg25 hr25 hb25 => ?_))
      have ge_hB_g25 := Nat.le_trans hB.size hg25
      have lt_g_g25 : g < g25 := Nat.lt_of_lt_of_le hr.lt hg25
      have lt_pv_g25 : pv < g25 := Nat.lt_of_lt_of_le hown.lt hg25
      replace hr := hr.new hb25
      replace hown := hown.new hb25
      replace hu := hu.new hb25
      replace hB := hB.acc hb25
      have hs25 := hr25.slA (m := 1) (sz := 1) rfl (by omega)
      have hle := opP_le D k
      have sz_hB_26 := hB.size
      refine WR_mk rfl (mk_append (e := 3) (sz := 1) (bytes := 8) (z := Value.int .i64 0) (by kernel_rfl) rfl (by kernel_rfl) rfl (by decide) rfl hu rfl hs25 (by simp [Value.oneCell']) (by unfold maxLen; omega) (by omega) (fun hm0 => by omega) (fun v26 w26 hv26 hgr26 hfr26 => ?_))
      replace hB := hB.own hu hgr26 (by omega)
      refine WR_val rfl (rn_assign) ?_
      refine WR_nil ?_
      refine blockN ?_
      refine thenN ?_
      refine W_region ?_
      refine WR_val rfl (rn_move) ?_
      refine WR_val rfl (rn_add rfl rfl (Coup.w64 (by omega))) ?_
      refine WR_val rfl (rn_assign) ?_
      refine WR_nil ?_
      have e : opP D (k + 1) = opP D k ++ [k] := by rw [opP_succ, if_pos (by unfold openB; exact decide_eq_true (by omega))]
      refine loopN ⟨(k + 1, v26), by omega, ⟨by go_num, rfl, rfl, rfl⟩, by omega, ?_, hB⟩
      rw [e, List.map_append, iv_append, List.length_append]
      exact hv26
    ·
      have e : opP D (k + 1) = opP D k := by rw [opP_succ, if_neg (by unfold openB; simp; omega), List.append_nil]
      refine W_skip ?_
      refine blockN ?_
      refine thenN ?_
      refine W_region ?_
      refine WR_val rfl (rn_move) ?_
      refine WR_val rfl (rn_add rfl rfl (Coup.w64 (by omega))) ?_
      refine WR_val rfl (rn_assign) ?_
      refine WR_nil ?_
      refine loopN ⟨(k + 1, u), by omega, ⟨by go_num, rfl, rfl, rfl⟩, by omega, ?_, hB⟩
      rw [e]
      exact hu
  ·
    have hkl : k = D.V.length := by omega
    have e : opP D k = opN D := by rw [hkl]; rfl
    rw [e] at hu
    refine W_exit ?_
    refine thenX ?_
    refine loopX ?_
    refine blockX ?_
    refine thenN ?_
    refine W_seq ?_
    refine W_region ?_
    refine WR_val rfl (rn_move) ?_
    refine WR_val rfl (rn_assign) ?_
    refine WR_nil ?_
    refine thenN ?_
    refine W_ret ?_
    refine ret_ret [_] ⟨rfl, trivial⟩ ?_
    obtain ⟨p, c, rfl⟩ := hu.form
    have hol := opI_len D
    exact ⟨p, c, by rw [hol]; rfl, by rw [hol]; exact hu.sl, fun b o e => by rw [e] at hu; exact (hu.lt b rfl).1, hB⟩
end Go.Proofs.Ytpndhildmfmcgaa
