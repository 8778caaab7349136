/- A copy of a disk. -/
import Derived.Test.YtpndhildmfmcgaaDiskY
import Derived.Test.YtpndhildmfmcgaaDiskC3
namespace Go.Proofs.Ytpndhildmfmcgaa
open Go Go.RowKit Coup

theorem clip43 {w : World} {p : Option Addr} {n c : Nat} (hp : ∃ g o, p = some ⟨g, o, none⟩) (hn : n ≤ c) (hn0 : 0 < n) :
    Calls Try.prog 43 [.slice p n c].toArray w (Ret fun v w' => v = .slice p n n ∧ w = w') := by
  obtain ⟨g, o, rfl⟩ := hp
  refine calls_W (fn := Try.f43) (rs := [.tmp 2]) (n := 9) Try.func43 rfl rfl Try.ntmps43 (by kernel_rfl) rfl ?_
  refine W_seq ?_
  refine W_region ?_
  refine WR_val rfl (rn_assign) ?_
  refine WR_nil ?_
  refine thenN ?_
  refine W_seq ?_
  refine W_region ?_
  refine WR_val rfl (rn_move) ?_
  refine WR_val rfl (rn_move) ?_
  refine WR_val rfl (rn_lenSl (e := 34) (sz := 128) (by kernel_rfl) rfl rfl) ?_
  refine WR_val rfl (rn_move) ?_
  refine WR_val rfl (rn_lenSl (e := 34) (sz := 128) (by kernel_rfl) rfl rfl) ?_
  refine WR_val rfl (rn_sliceSl' (e := 34) (sz := 128) (0) (n) (n) (n) (by kernel_rfl) rfl rfl ⟨_, _, rfl, by omega⟩ ⟨_, _, rfl, by omega⟩ (by simp) (by omega) (by omega) (by omega) (by omega) (by omega)) ?_
  refine WR_val rfl (rn_assign) ?_
  refine WR_nil ?_
  refine thenN ?_
  refine W_ret ?_
  refine ret_ret [_] ⟨rfl, trivial⟩ ?_
  exact ⟨rfl, rfl⟩
theorem clone41 {w : World} {g o n c : Nat} {xs : List Value} (h : SlAt w (some ⟨g, o, none⟩) n 128 xs) (h1 : ∀ u ∈ xs, u.oneCell' = true) (hn : 0 < n) (hn2 : n ≤ 8192) :
    Calls Try.prog 41 [.slice (some ⟨g, o, none⟩) n c].toArray w (Ret fun v w' => ∃ q qo cq, v = .slice (some ⟨q, qo, none⟩) n cq ∧ OwnG w' w.heap.size 34 128 q qo n cq xs ∧ Below w.heap.size w w') := by
  have hB := Below.refl w.heap.size w
  have hml : maxLen = 9223372036854775807 := by decide
  have hgl : g < w.heap.size := by obtain ⟨g', o', e, hl⟩ := h.some (by omega); cases e; exact hl
  refine calls_W (fn := Try.f41) (rs := [.tmp 2]) (n := 8) Try.func41 rfl rfl Try.ntmps41 (by kernel_rfl) rfl ?_
  refine W_seq ?_
  refine W_region ?_
  refine WR_val rfl (rn_assign) ?_
  refine WR_nil ?_
  refine thenN ?_
  refine W_seq ?_
  refine W_seq ?_
  refine W_region ?_
  refine WR_val rfl (rn_move) ?_
  refine WR_val rfl (rn_eqlNil (e := 34) (by kernel_rfl) rfl rfl) ?_
  refine WR_nil ?_
  refine thenN ?_
  refine W_fb rfl (rfl) ?_
  refine W_skip ?_
  refine thenN ?_
  refine W_seq ?_
  refine W_region ?_
  refine WR_mk rfl (mk_empty (e := 34) (sz := 128) (by kernel_rfl) (by kernel_rfl) (fun g5 w5 hg5 hr5 hb5 => ?_))
  have ge_hB_g5 := Nat.le_trans hB.size hg5
  replace h := h.new hb5
  replace hB := hB.acc hb5
  refine WR_val rfl (rn_move) ?_
  have hv5 := hr5.owns (base := w.heap.size) (m := 0) (sz := 128) (by omega) rfl (by omega)
  have sz_hB_7 := hB.size
  refine WR_mk rfl (mk_append (e := 34) (sz := 128) (bytes := 128) (z := .agg (List.replicate 128 (Value.int .u8 0)).toArray) (by kernel_rfl) rfl (by kernel_rfl) rfl (by decide) rfl hv5 rfl h h1 (by unfold maxLen; omega) (by omega) (fun hm0 => by omega) (fun v7 w7 hv7 hgr7 hfr7 => ?_))
  replace h := h.own hv5 hgr7 (by omega)
  replace hB := hB.own hv5 hgr7 (by omega)
  refine WR_val rfl (rn_assign) ?_
  refine WR_nil ?_
  refine thenN ?_
  refine W_ret ?_
  refine ret_ret [_] ⟨rfl, trivial⟩ ?_
  rw [List.nil_append, Nat.zero_add] at hv7
  have hobt := hv7.form' (by omega)
  obtain ⟨q, qo, cq, rfl, hq1, hq2, hq3⟩ := hobt
  exact ⟨q, qo, cq, rfl, hv7, hB⟩
def clipV : Value → Value
  | .slice p n _ => .slice p n n
  | v => v
theorem opt_clip (o : Option Value) : o = cond o.isSome o (o.map clipV) := by cases o <;> rfl
theorem since_clip (D : Dk) (sv : Nat → Value) (i : Nat) : since D (fun j => clipV (sv j)) i = (since D sv i).map clipV := by
  unfold since
  split <;> rfl
theorem _root_.Coup.MapAt.congr {P : Program} {k : TypeId} {w : World} {m N : Nat} {f f' : Nat → Option Value} (h : MapAt P k w m N f) (hf : ∀ i, i < N → f i = f' i) : MapAt P k w m N f' := by
  unfold MapAt at h ⊢
  rw [← kvL_congr N 0 (fun i _ h2 => hf i (by omega))]
  exact h
set_option maxRecDepth 8000 in
set_option maxHeartbeats 1000000 in
theorem copy21 {w : World} {g pl m : Nat} {G : List Nat} {D : Dk} {ol cl : Nat} {st : Int} {fu : Bool} {sv : Nat → Value} (h : DkM w g pl m G D ol cl st fu sv)
    (hc : ∀ i p n c, openB D i = true → sv i = .slice p n c → n ≤ c) :
    Calls Try.prog 21 [.pointer (some ⟨g, 0, none⟩)].toArray w (Ret fun v w' => ∃ g' pl' m' ol' cl', v = .pointer (some ⟨g', 0, none⟩) ∧ DkM w' g' pl' m' G D ol' cl' st fu (fun i => clipV (sv i)) ∧ w.heap.size ≤ g' ∧ w.heap.size ≤ pl' ∧ w.heap.size ≤ m' ∧ Below w.heap.size w w') := by
  have hB := Below.refl w.heap.size w
  have hml : maxLen = 9223372036854775807 := by decide
  have hS := sectors27 h
  have hr := h.row
  have hown := h.own
  have hmap := h.map
  have hp := h.pos
  have hn8 := h.ok.n
  refine calls_W (fn := Try.f21) (rs := [.tmp 2]) (n := 37) Try.func21 rfl rfl Try.ntmps21 (by kernel_rfl) rfl ?_
  refine W_seq ?_
  refine W_region ?_
  refine WR_val rfl (rn_assign) ?_
  refine WR_nil ?_
  refine thenN ?_
  refine W_seq ?_
  refine W_seq ?_
  refine W_region ?_
  refine WR_val rfl (rn_move) ?_
  refine WR_ent rfl (rn_call (by kernel_rfl) rfl) (hS) ?_
  rintro _ _ ⟨rfl, rfl⟩
  refine WR_val rfl (rn_eql rfl rfl) ?_
  refine WR_nil ?_
  refine thenN ?_
  refine W_fp rfl ((by omega)) ?_
  refine W_skip ?_
  refine thenN ?_
  refine W_seq ?_
  refine W_region ?_
  refine WR_val rfl (rn_move) ?_
  refine WR_val rfl (rn_nilCheckP rfl) ?_
  refine WR_val rfl (rn_load rfl (Ld.rowA (k := 5) hr (by kernel_rfl) (by kernel_rfl) (by first | (simp; done) | (simp [bv_length, *]; done) | assumption))) ?_
  refine WR_mk rfl (mk_alloc ([Value.slice none 0 0, Value.map none, Value.int .i64 0, Value.bool false, Value.bool false]) (by kernel_rfl) (fun g3 w3 hg3 hr3 hb3 => ?_))
  have ge_hB_g3 := Nat.le_trans hB.size hg3
  have lt_g_g3 : g < g3 := Nat.lt_of_lt_of_le hr.lt hg3
  have lt_pl_g3 : pl < g3 := Nat.lt_of_lt_of_le hown.lt hg3
  have lt_m_g3 : m < g3 := Nat.lt_of_lt_of_le hmap.lt hg3
  replace hr := hr.new hb3
  replace hown := hown.new hb3
  replace hmap := hmap.new hb3
  replace hB := hB.acc hb3
  refine WR_sk rfl (sk_storeA 5 ([.slice (some ⟨pl, ol, none⟩) D.V.length cl, .map (some m), .int .i64 st, .bool fu, .bool D.dead]) rfl rfl hr3 (by kernel_rfl) (by first | assumption | (simp; done) | (simp [bv_length, *]; done)) (by first | assumption | (simp; done) | (simp [bv_length, *]; done) | rfl) (by first | exact bv_one _ | assumption | (simp [Value.oneCell']; done)) (fun w901 hr3 ho901 => ?_))
  replace hr := hr.only ho901 (Nat.ne_of_lt lt_g_g3)
  replace hown := hown.only ho901 (Nat.ne_of_lt lt_pl_g3)
  replace hmap := hmap.only ho901 (Nat.ne_of_lt lt_m_g3)
  replace hB := ho901.below hB ge_hB_g3
  refine WR_nil ?_
  refine thenN ?_
  refine W_seq ?_
  refine W_draw' [g3] (by kernel_rfl) ?_
  intro w902 hb902 hS902
  replace hr := hr.new hb902
  replace hown := hown.new hb902
  replace hmap := hmap.new hb902
  replace hr3 := hr3.new hb902
  replace hB := hB.acc hb902
  have hr_d902 := hr
  have hown_d902 := hown
  have hmap_d902 := hmap
  have hr3_d902 := hr3
  have hB_d902 := hB
  refine WA_take 0 (by kernel_rfl) rfl (fun _ _ => rn_move) ?_
  refine WA_take 1 (by kernel_rfl) rfl (fun _ _ => rn_nilCheckP rfl) ?_
  refine WA_take 2 (by kernel_rfl) rfl (fun _ _ => rn_fieldAddr (off := 0) (by kernel_rfl) rfl) ?_
  refine WA_take 3 (by kernel_rfl) rfl (fun w' hS' => rn_load rfl (Ld.row1 (hr_d902.kpd hS' (by first | (simp; done) | (simp; omega) | (simp [*]; done) | exact notLL (Or.inl (by omega)) | exact notLL (Or.inr (by simp)) | exact fun g hm => Nat.le_trans (by omega) (inLL hm).1 | (intro b o e; cases e; exact notLL (Or.inl (by omega))))) (by kernel_rfl) rfl)) ?_
  refine WA_take 5 (by kernel_rfl) rfl (fun _ _ => rn_move) ?_
  refine WA_take 6 (by kernel_rfl) rfl (fun _ _ => rn_nilCheckP rfl) ?_
  refine WA_take 7 (by kernel_rfl) rfl (fun _ _ => rn_fieldAddr (off := 1) (by kernel_rfl) rfl) ?_
  refine WA_take 8 (by kernel_rfl) rfl (fun w' hS' => rn_load rfl (Ld.row1 (hr_d902.kpd hS' (by first | (simp; done) | (simp; omega) | (simp [*]; done) | exact notLL (Or.inl (by omega)) | exact notLL (Or.inr (by simp)) | exact fun g hm => Nat.le_trans (by omega) (inLL hm).1 | (intro b o e; cases e; exact notLL (Or.inl (by omega))))) (by kernel_rfl) rfl)) ?_
  refine WA_one 4 (by kernel_rfl) ?_
  have z1 := hr3.lt
  refine WO_ent rfl rfl (rn_call (by kernel_rfl) rfl) (clone41 hown.sl (bv_one _) hp hn8) ?_
  rintro _ w16 ⟨q, qo, cq, rfl, hq, hb16⟩
  have hS903 := hS902.add0 hb16
  refine ⟨hS903, ?_⟩
  replace hr := hr.new hb16
  replace hown := hown.new hb16
  replace hmap := hmap.new hb16
  replace hr3 := hr3.new hb16
  replace hB := hB.acc hb16
  have z2 := hq.base_le
  refine WA_one 9 (by kernel_rfl) ?_
  have z3 := hr3.lt
  have z4 := hq.lt
  refine WO_ent rfl rfl (rn_call (by kernel_rfl) rfl) (cloneMapC hmap) ?_
  rintro _ w21 ⟨m', rfl, hm1, hm', hb21⟩
  have hS904 := hS903.add0 hb21
  refine ⟨hS904, ?_⟩
  replace hr := hr.new hb21
  replace hown := hown.new hb21
  replace hmap := hmap.new hb21
  replace hr3 := hr3.new hb21
  replace hq := hq.new hb21
  replace hB := hB.acc hb21
  refine WA_take 10 (by kernel_rfl) rfl (fun _ _ => rn_fieldAddr (off := 0) (by kernel_rfl) rfl) ?_
  refine WA_one 11 (by kernel_rfl) ?_
  refine WO_sk rfl rfl (sk_store1 rfl rfl rfl rfl hr3 (by kernel_rfl) (by first | (simp only [List.length_replicate]; omega) | (simp only [iv_length]; omega) | (simp only [bv_length, List.length_set]; omega) | simp) (fun w906 hr3 ho906 => ?_))
  have hS905 := hS904.add1 ho906 (by first | (left; omega) | (right; simp; done) | (right; simp; omega))
  refine ⟨hS905, ?_⟩
  replace hr := hr.only ho906 (Nat.ne_of_lt lt_g_g3)
  replace hown := hown.only ho906 (Nat.ne_of_lt lt_pl_g3)
  replace hmap := hmap.only ho906 (Nat.ne_of_lt lt_m_g3)
  replace hq := hq.only ho906 (by omega)
  replace hm' := hm'.only ho906 (by omega)
  replace hB := ho906.below hB ge_hB_g3
  refine WA_take 12 (by kernel_rfl) rfl (fun _ _ => rn_fieldAddr (off := 1) (by kernel_rfl) rfl) ?_
  refine WA_one 13 (by kernel_rfl) ?_
  refine WO_sk rfl rfl (sk_store1 rfl rfl rfl rfl hr3 (by kernel_rfl) (by first | (simp only [List.length_replicate]; omega) | (simp only [iv_length]; omega) | (simp only [bv_length, List.length_set]; omega) | simp) (fun w908 hr3 ho908 => ?_))
  have hS907 := hS905.add1 ho908 (by first | (left; omega) | (right; simp; done) | (right; simp; omega))
  refine ⟨hS907, ?_⟩
  replace hr := hr.only ho908 (Nat.ne_of_lt lt_g_g3)
  replace hown := hown.only ho908 (Nat.ne_of_lt lt_pl_g3)
  replace hmap := hmap.only ho908 (Nat.ne_of_lt lt_m_g3)
  replace hq := hq.only ho908 (by omega)
  replace hm' := hm'.only ho908 (by omega)
  replace hB := ho908.below hB ge_hB_g3
  refine WA_done (by kernel_rfl) ?_
  refine thenN ?_
  refine W_seq ?_
  refine W_seq ?_
  refine W_region ?_
  refine WR_val rfl (rn_fieldAddr (off := 1) (by kernel_rfl) rfl) ?_
  refine WR_val rfl (rn_load rfl (Ld.row1 hr3 (by kernel_rfl) rfl)) ?_
  have z6 := hm'.lt
  refine WR_mk rfl (mk_rangeM (k := 3) (e := 52) (by kernel_rfl) (by kernel_rfl) hm' rfl (fun r w26 cnt hr0 hrg hb26 => ?_))
  replace hr := hr.new hb26
  replace hown := hown.new hb26
  replace hmap := hmap.new hb26
  replace hr3 := hr3.new hb26
  replace hq := hq.new hb26
  replace hm' := hm'.new hb26
  replace hB := hB.acc hb26
  refine WR_nil ?_
  refine thenN ?_
  refine W_block ?_
  have hobt : ∃ N, D.V.length = N := ⟨_, rfl⟩
  obtain ⟨N, hN⟩ := hobt
  rw [hN] at hrg hr3 hq
  have z7 := hrg.lt
  have zne := hrg.ne
  have zqm : q < m' := by omega
  refine W_loop (α := Nat × (Nat → Option Value) × (Nat → Bool)) (cnt, since D sv, fun i => (since D sv i).isSome) (fun _ => [(26, .pointer (some ⟨r, 0, none⟩)), (3, .pointer (some ⟨g3, 0, none⟩))])
    (fun k w' => RgAt Try.prog 3 w' m' r N k.2.1 k.2.2 k.1 ∧ (∀ i, i < N → k.2.1 i = cond (k.2.2 i) (since D sv i) ((since D sv i).map clipV)) ∧ row w' g3 [.slice (some ⟨q, qo, none⟩) N cq, .map (some m'), .int .i64 st, .bool fu, .bool D.dead] 63 ∧ OwnG w' 0 34 128 q qo N cq (bv (lastsD D).flatten) ∧ Below w.heap.size w w') (fun k => k.1)
    ⟨rfl, rfl, rfl⟩ ⟨hrg, fun i hi => ?_, hr3, ownsAt.mono hq (Nat.zero_le _), hB⟩ ?_
  · exact opt_clip _
  clear hr3 hq hB hrg
  rintro ⟨k, f, left⟩ f0 wr ⟨hrg, hff, hr3, hq, hB⟩
  dsimp only at hrg hff ⊢
  refine W_seq ?_
  refine W_region ?_
  refine WR_mk rfl (mk_nextM (by kernel_rfl) hrg rfl (fun hdone => ?_) (fun i v w909 cntN hiN hleftN hfN hrgN hltN hoN henN => ?_))
  ·
    refine WR_val rfl (rn_extract rfl rfl) ?_
    refine WR_nil ?_
    refine thenN ?_
    refine W_seq ?_
    refine W_fb rfl (rfl) ?_
    refine W_exit ?_
    refine thenX ?_
    refine loopX ?_
    refine blockX ?_
    refine thenN ?_
    refine W_seq ?_
    refine W_region ?_
    refine WR_val rfl (rn_assign) ?_
    refine WR_nil ?_
    refine thenN ?_
    refine W_ret ?_
    refine ret_ret [_] ⟨rfl, trivial⟩ ?_
    have hmm := MapAt.congr hrg.map (f' := since D fun i => clipV (sv i)) fun i hi => by rw [hff i hi, hdone i hi, since_clip]; rfl
    refine ⟨g3, q, m', qo, cq, rfl, ⟨by rw [hN]; exact hr3, by rw [hN]; exact hq, by rw [hN]; exact hmm, fun i hi => ?_, fun b hb => Nat.lt_of_lt_of_le (h.inG b hb) hB.size, ⟨by omega, by omega, by omega, fun b hb => ?_⟩, h.left, h.ok, h.pos⟩, by omega, by omega, by omega, hB⟩
    · obtain ⟨p, c, e1, e2, e3⟩ := h.sv i hi
      exact ⟨p, _, by show clipV (sv i) = _; rw [e1]; rfl, e2.below hB (Nat.le_refl _), e3⟩
    · have := h.inG b hb
      omega
  ·
    replace hr3 := hr3.only hoN (by omega)
    replace hq := hq.only hoN (by omega)
    replace hB := hoN.below hB (by omega)
    have hsi := hff i hiN
    rw [hleftN, hfN, cond_true] at hsi
    have hop : openB D i = true := by
      by_cases ho : openB D i = true
      · exact ho
      · rw [since, if_neg ho] at hsi; cases hsi
    have hvi : v = sv i := by rw [since, if_pos hop] at hsi; exact Option.some.inj hsi
    have hobt := h.sv i hop
    obtain ⟨p, c, e1, e2, e3⟩ := hobt
    have hcc := hc i _ _ _ hop e1
    have hl1 : 1 < (ver D i).length := of_decide_eq_true hop
    have hobt := e2.some (by omega)
    obtain ⟨gp, op, rfl, hgp⟩ := hobt
    rw [e1] at hvi
    subst hvi
    refine WR_val rfl (rn_extract rfl rfl) ?_
    refine WR_nil ?_
    refine thenN ?_
    refine W_seq ?_
    refine W_tb rfl (rfl) ?_
    refine W_skip ?_
    refine thenN ?_
    refine W_block ?_
    refine W_seq ?_
    refine W_region ?_
    refine WR_val rfl (rn_entry rfl henN) ?_
    refine WR_val rfl (rn_extract rfl rfl) ?_
    refine WR_val rfl (rn_extract rfl rfl) ?_
    refine WR_val rfl (rn_assign) ?_
    refine WR_val rfl (rn_assign) ?_
    refine WR_nil ?_
    refine thenN ?_
    refine W_draw' [m'] (by kernel_rfl) ?_
    intro w910 hb910 hS910
    replace hr3 := hr3.new hb910
    replace hq := hq.new hb910
    replace hrgN := hrgN.new hb910
    replace hB := hB.acc hb910
    have hr3_d910 := hr3
    have hq_d910 := hq
    have hrgN_d910 := hrgN
    have hB_d910 := hB
    refine WA_take 0 (by kernel_rfl) rfl (fun _ _ => rn_fieldAddr (off := 1) (by kernel_rfl) rfl) ?_
    refine WA_take 1 (by kernel_rfl) rfl (fun w' hS' => rn_load rfl (Ld.row1 (hr3_d910.kpd hS' (by first | (simp; done) | (simp; omega) | (simp [*]; done) | exact notLL (Or.inl (by omega)) | exact notLL (Or.inr (by simp)) | exact fun g hm => Nat.le_trans (by omega) (inLL hm).1 | (intro b o e; cases e; exact notLL (Or.inl (by omega))))) (by kernel_rfl) rfl)) ?_
    refine WA_take 2 (by kernel_rfl) rfl (fun _ _ => rn_move) ?_
    refine WA_take 3 (by kernel_rfl) rfl (fun _ _ => rn_move) ?_
    refine WA_call 4 (by kernel_rfl) rfl (fun _ => rn_call (by kernel_rfl) rfl) (fun w' hS' => clip43 ⟨_, _, rfl⟩ hcc (by omega)) ?_
    refine WA_one 5 (by kernel_rfl) ?_
    refine WO_sk rfl rfl (sk_mapUpdR (k := 3) (e := 52) (.slice (some ⟨gp, op, none⟩) ((ver D i).length - 1) ((ver D i).length - 1)) (_) (by kernel_rfl) (by kernel_rfl) hrgN rfl rfl rfl (i) (by first | rfl | omega) (by omega) (by omega) (hfN) (fun w912 hrgN ho912 => ?_))
    have hS911 := hS910.add1 ho912 (by first | (left; omega) | (right; simp; done) | (right; simp; omega))
    refine ⟨hS911, ?_⟩
    replace hr3 := hr3.only ho912 (by omega)
    replace hq := hq.only ho912 (by omega)
    replace hB := ho912.below hB (by omega)
    refine WA_done (by kernel_rfl) ?_
    refine blockN ?_
    refine loopN ⟨(cntN, updF f i (some (.slice (some ⟨gp, op, none⟩) ((ver D i).length - 1) ((ver D i).length - 1))), fun j => left j && !decide (j = i)), hltN, ⟨rfl, rfl, rfl⟩, hrgN, fun j hj => ?_, hr3, hq, hB⟩
    dsimp only
    unfold updF
    by_cases hj2 : j = i
    · subst hj2
      rw [if_pos rfl, since, if_pos hop, e1, decide_eq_true rfl]
      simp [clipV]
    · rw [if_neg hj2, hff j hj, decide_eq_false hj2]
      simp
end Go.Proofs.Ytpndhildmfmcgaa
