/- A disk: a sector settled; what a pick leaves. -/
import Derived.Test.YtpndhildmfmcgaaDiskC
namespace Go.Proofs.Ytpndhildmfmcgaa
open Go Go.RowKit Coup

theorem ver_set {D : Dk} {i j : Nat} {v : List Sec} (hi : i < D.V.length) : ver (setV D i v) j = if i = j then v else ver D j := by
  unfold ver setV
  dsimp only
  rw [List.getD_eq_getElem?_getD, List.getD_eq_getElem?_getD, List.getElem?_set]
  by_cases h : i = j
  · rw [if_pos h, if_pos h, if_pos hi]; rfl
  · rw [if_neg h, if_neg h]
theorem setV_ok {D : Dk} (h : DkOk D) {i : Nat} {v : List Sec} (h1 : v ≠ []) (h2 : secsOk v) (h3 : v.length ≤ 100000) : DkOk (setV D i v) := by
  refine ⟨by show (D.V.set i v).length ≤ 8192; rw [List.length_set]; exact h.n, fun x hx => ?_, fun x hx => ?_, fun x hx => ?_⟩
  all_goals
    rcases List.mem_or_eq_of_mem_set hx with e | e
  · exact h.ne x e
  · rw [e]; exact h1
  · exact h.sec x e
  · rw [e]; exact h2
  · exact h.short x e
  · rw [e]; exact h3
theorem lasts_set (D : Dk) (i : Nat) (v : List Sec) : lastsD (setV D i v) = (lastsD D).set i (headS v) := by
  unfold lastsD setV
  dsimp only
  rw [List.map_set]
theorem since_settle {D : Dk} {sv : Nat → Value} {i : Nat} {s : Sec} (hi : i < D.V.length) : since (setV D i [s]) sv = updF (since D sv) i none := by
  funext j
  unfold since updF openB
  rw [ver_set hi]
  by_cases h : j = i
  · subst h; simp
  · rw [if_neg (show ¬ i = j from fun e => h e.symm), if_neg h]
set_option maxRecDepth 8000 in
theorem settle37 {w : World} {g pl m : Nat} {G : List Nat} {D : Dk} {ol cl : Nat} {st : Int} {fu : Bool} {sv : Nat → Value} (h : DkM w g pl m G D ol cl st fu sv) (i : Nat) (s : Sec) (hi : i < D.V.length) (hs : s.length = 128) :
    Calls Try.prog 37 [.pointer (some ⟨g, 0, none⟩), .int .i64 (i : Int), .agg (bv s).toArray].toArray w (Ret fun _ w' => DkM w' g pl m G (setV D i [s]) ol cl st fu sv ∧ Kp [pl, m] w w') := by
  have hr := h.row
  have hmap := h.map
  have hown := h.own
  have hn8 := h.ok.n
  have hK := KpB.refl [pl, m] w
  have hll := flat_len (lasts_ok h.ok)
  have hlm : (lastsD D).length = D.V.length := by simp [lastsD]
  have hsl : (bv s).length = 128 := by rw [bv_length]; exact hs
  have hbo := bv_one s
  obtain ⟨ne1, ne2, ne3, ne4⟩ := h.ne
  have hlm2 := hmap.lt
  have hlp := hown.lt
  have hlg := hr.lt
  refine calls_W (fn := Try.f37) (rs := []) (n := 18) Try.func37 rfl rfl Try.ntmps37 (by kernel_rfl) rfl ?_
  refine W_seq ?_
  refine W_region ?_
  refine WR_mk rfl (mk_box ((bv s)) rfl (fun g5 w5 hg5 hr5 hb5 => ?_))
  have lt_g_g5 : g < g5 := Nat.lt_of_lt_of_le hr.lt hg5
  have lt_m_g5 : m < g5 := Nat.lt_of_lt_of_le hmap.lt hg5
  have lt_pl_g5 : pl < g5 := Nat.lt_of_lt_of_le hown.lt hg5
  replace hr := hr.new hb5
  replace hmap := hmap.new hb5
  replace hown := hown.new hb5
  replace hK := hK.new hb5
  refine WR_nil ?_
  refine thenN ?_
  refine W_seq ?_
  refine W_draw' [pl] (by kernel_rfl) ?_
  intro w901 hb901 hS901
  replace hr := hr.new hb901
  replace hmap := hmap.new hb901
  replace hown := hown.new hb901
  replace hK := hK.new hb901
  replace hr5 := hr5.new hb901
  have hr_d901 := hr
  have hmap_d901 := hmap
  have hown_d901 := hown
  have hK_d901 := hK
  have hr5_d901 := hr5
  refine WA_take 0 (by kernel_rfl) rfl (fun _ _ => rn_move) ?_
  refine WA_take 1 (by kernel_rfl) rfl (fun _ _ => rn_nilCheckP rfl) ?_
  refine WA_take 2 (by kernel_rfl) rfl (fun _ _ => rn_fieldAddr (off := 0) (by kernel_rfl) rfl) ?_
  refine WA_take 3 (by kernel_rfl) rfl (fun w' hS' => rn_load rfl (Ld.row1 (hr_d901.kpd hS' (by first | (simp; done) | (simp; omega) | (simp [*]; done) | exact notLL (Or.inl (by omega)) | exact notLL (Or.inr (by simp)) | exact fun g hm => Nat.le_trans (by omega) (inLL hm).1 | (intro b o e; cases e; exact notLL (Or.inl (by omega))))) (by kernel_rfl) rfl)) ?_
  refine WA_take 4 (by kernel_rfl) rfl (fun _ _ => rn_move) ?_
  refine WA_take 5 (by kernel_rfl) rfl (fun w' hS' => rn_load rfl (Ld.rowA (k := 128) (hr5_d901.kpd hS' (by first | (simp; done) | (simp; omega) | (simp [*]; done) | exact notLL (Or.inl (by omega)) | exact notLL (Or.inr (by simp)) | exact fun g hm => Nat.le_trans (by omega) (inLL hm).1 | (intro b o e; cases e; exact notLL (Or.inl (by omega))))) (by kernel_rfl) (by kernel_rfl) (by first | (simp; done) | (simp [bv_length, *]; done) | assumption))) ?_
  refine WA_take 6 (by kernel_rfl) rfl (fun _ _ => rn_indexSl (e := 34) (sz := 128) (by kernel_rfl) rfl rfl (i) (by omega) (by omega)) ?_
  refine WA_one 7 (by kernel_rfl) ?_
  refine WO_sk rfl rfl (sk_storeO (bv s) (i * 128) hown rfl rfl (by rw [hsl]; kernel_rfl) (by simp only [bv_length]; omega) (bv_one _) (fun w903 hown ho903 => ?_))
  have hS902 := hS901.add1 ho903 (by first | (left; omega) | (right; simp; done) | (right; simp; omega))
  refine ⟨hS902, ?_⟩
  replace hr := hr.only ho903 (by omega)
  replace hmap := hmap.only ho903 (by omega)
  replace hK := hK.only ho903 (by simp)
  replace hr5 := hr5.only ho903 (Nat.ne_of_gt lt_pl_g5)
  rw [flat_set (lasts_ok h.ok) (by omega) hs] at hown
  refine WA_done (by kernel_rfl) ?_
  refine thenN ?_
  refine W_region ?_
  refine WR_val rfl (rn_move) ?_
  refine WR_val rfl (rn_nilCheckP rfl) ?_
  refine WR_val rfl (rn_fieldAddr (off := 1) (by kernel_rfl) rfl) ?_
  refine WR_val rfl (rn_load rfl (Ld.row1 hr (by kernel_rfl) rfl)) ?_
  refine WR_val rfl (rn_move) ?_
  refine WR_mk rfl (mk_delete (k := 3) (e := 52) (by kernel_rfl) (by kernel_rfl) hmap rfl rfl (i) (by first | rfl | omega) (by omega) (by omega) (fun w904 hmap ho904 => ?_))
  replace hr := hr.only ho904 (by omega)
  replace hown := hown.only ho904 (by omega)
  replace hK := hK.only ho904 (by simp)
  replace hr5 := hr5.only ho904 (Nat.ne_of_gt lt_m_g5)
  refine WR_nil ?_
  refine ret_normal [] trivial ?_
  have hls := lasts_set D i [s]
  rw [show headS [s] = s from rfl] at hls
  rw [← hls] at hown
  rw [← since_settle (s := s) hi] at hmap
  have hVl : (setV D i [s]).V.length = D.V.length := List.length_set ..
  refine ⟨⟨by rw [hVl]; exact hr, by rw [hVl]; exact hown, by rw [hVl]; exact hmap, fun j hj => ?_, fun b hb => Nat.lt_of_lt_of_le (h.inG b hb) hK.k.size, h.ne, h.left, setV_ok h.ok (by simp) (fun x hx => by simp at hx; rw [hx]; exact hs) (by simp), by rw [hVl]; exact h.pos⟩, hK.k⟩
  have hij : ¬ i = j := fun e => by
    unfold openB at hj
    rw [ver_set hi, if_pos e] at hj
    simp at hj
  unfold openB at hj
  rw [ver_set hi, if_neg hij] at hj ⊢
  have hobt := h.sv j hj
  obtain ⟨p, c, h1, h2, h3⟩ := hobt
  exact ⟨p, c, h1, h2.kpd hK.k fun b o e => by have := ne4 b (h3 b o e); simp [this], h3⟩
/-! ### What a pick leaves -/
theorem pick_mod (a : Int) (n : Nat) (hn : 0 < n) : (a.tmod n + n) % (n : Int) = a % n ∧ -(n : Int) < a.tmod n ∧ a.tmod n < n := by
  have h1 : a.tmod n = a - n * (a.tdiv n) := Int.tmod_def a n
  refine ⟨?_, ?_, ?_⟩
  · rw [h1, show a - (n : Int) * (a.tdiv n) + n = a + n * (1 - a.tdiv n) by rw [Int.mul_sub, Int.mul_one]; omega, Int.add_mul_emod_self_left]
  · have := Int.natAbs_tmod a n
    have h2 : (a.natAbs % n) < n := Nat.mod_lt _ hn
    rw [Int.natAbs_natCast] at this
    omega
  · have := Int.natAbs_tmod a n
    have h2 : (a.natAbs % n) < n := Nat.mod_lt _ hn
    rw [Int.natAbs_natCast] at this
    omega
theorem splice_bv0 (L r : List UInt8) : splice (bv L) 0 (bv r) = bv (r ++ L.drop r.length) := by
  simp only [splice, bv, List.map_append, List.map_drop, List.length_map, List.take_zero, List.nil_append, Nat.zero_add]
theorem sec_src {w : World} {g o n : Nat} {L : List Sec} (h : SlAt w (some ⟨g, o, none⟩) n 128 (bv L.flatten)) (hL : secsOk L) {i : Nat} {s : Sec} (hs : L[i]? = some s) (q : Nat) :
    ∀ (j : Nat) (v : Value), (bv (s.take q))[j]? = some v → w.cell? ((⟨g, o + i * 128, none⟩ : Addr).add j) = some v := fun j v hv => by
  have h1 := flat_at hL hs
  rw [Addr.add_lit, Nat.add_assoc]
  refine h.cell _ ?_
  rw [bv, List.getElem?_map] at hv ⊢
  rw [List.getElem?_take] at hv
  split at hv
  · rw [← h1, List.getElem?_take] at hv
    split at hv
    · rw [List.getElem?_drop] at hv; exact hv
    · simp at hv
  · simp at hv
theorem splice_torn {A B : Sec} (hB : B.length = 128) : splice (bv A) 0 (bv (B.take 64)) = bv (tornS B A) := by
  rw [splice_bv0, tornS, List.length_take, hB]; rfl
set_option maxRecDepth 8000 in
set_option maxHeartbeats 1000000 in
theorem left40 {w : World} {g pl m : Nat} {G : List Nat} {D : Dk} {ol cl : Nat} {st : Int} {fu : Bool} {sv : Nat → Value} (h : DkM w g pl m G D ol cl st fu sv) (i : Nat) (pick : Int) (hi : i < D.V.length) :
    Calls Try.prog 40 [.pointer (some ⟨g, 0, none⟩), .int .i64 (i : Int), .int .i64 pick].toArray w (Ret fun v w' => v = .agg (bv (leftS (ver D i) pick)).toArray ∧ Below w.heap.size w w') := by
  have hB := Below.refl w.heap.size w
  have hml : maxLen = 9223372036854775807 := by decide
  have hr := h.row
  have hmap := h.map
  have hown := h.own
  have hn8 := h.ok.n
  obtain ⟨hv1, hv2, hv3⟩ := ver_ok h.ok hi
  have hla := lasts_at hi
  have hhd := headS_ok hv2
  have hpos := List.length_pos_iff.2 hv1
  obtain ⟨n, hn⟩ : ∃ n, (ver D i).length = n := ⟨_, rfl⟩
  obtain ⟨hk1, hk2, hk3⟩ := pick_mod pick (2 * n - 1) (by omega)
  obtain ⟨k, hkk, hkl⟩ : ∃ k : Nat, pick % ((2 * n - 1 : Nat) : Int) = (k : Int) ∧ k < 2 * n - 1 := by
    have h1 := Int.emod_nonneg pick (show ((2 * n - 1 : Nat) : Int) ≠ 0 by omega)
    have h2 := Int.emod_lt_of_pos pick (show (0 : Int) < ((2 * n - 1 : Nat) : Int) by omega)
    exact ⟨(pick % ((2 * n - 1 : Nat) : Int)).toNat, by omega, by omega⟩
  have hleft : leftS (ver D i) pick = leftAt (ver D i) k := by rw [leftS, hn, hkk, Int.toNat_natCast]
  rw [hleft]
  rw [hkk] at hk1
  obtain ⟨A, hA⟩ : ∃ A, (ver D i)[(k + 1) / 2]? = some A := ⟨_, List.getElem?_eq_getElem (by omega)⟩
  have hAl : (bv A).length = 128 := by rw [bv_length]; exact hv2 A (List.mem_of_getElem? hA)
  have hAg : (ver D i).getD ((k + 1) / 2) zeroS = A := by rw [List.getD_eq_getElem?_getD, hA]; rfl
  obtain ⟨Hs, hHs⟩ : ∃ Hs, headS (ver D i) = Hs := ⟨_, rfl⟩
  have hHl : (bv Hs).length = 128 := by rw [bv_length, ← hHs]; exact hhd
  have hcons : Hs ++ (ver D i).tail.flatten = (ver D i).flatten := by
    obtain ⟨a, l, e⟩ := List.exists_cons_of_ne_nil hv1
    rw [← hHs, e]; rfl
  rw [hHs] at hla hhd
  rw [hn] at hpos
  obtain ⟨Z, hzz, hzb, hzl⟩ := zeroSQ
  refine calls_W (fn := Try.f40) (rs := [.cell 6 34]) (n := 64) Try.func40 rfl rfl Try.ntmps40 (by kernel_rfl) rfl ?_
  refine W_seq ?_
  refine W_region ?_
  refine WR_mk rfl (mk_alloc (List.replicate 128 (Value.int .u8 0)) (by kernel_rfl) (fun g6 w6 hg6 hr6 hb6 => ?_))
  have ge_hB_g6 := Nat.le_trans hB.size hg6
  have lt_g_g6 : g < g6 := Nat.lt_of_lt_of_le hr.lt hg6
  have lt_m_g6 : m < g6 := Nat.lt_of_lt_of_le hmap.lt hg6
  have lt_pl_g6 : pl < g6 := Nat.lt_of_lt_of_le hown.lt hg6
  replace hr := hr.new hb6
  replace hmap := hmap.new hb6
  replace hown := hown.new hb6
  replace hB := hB.acc hb6
  rw [hzb] at hr6
  refine WR_nil ?_
  refine thenN ?_
  refine W_seq ?_
  have hobt := h.look i hi
  obtain ⟨p, c, hlk, hsl, hpG⟩ := hobt
  rw [hn] at hlk hsl
  refine W_draw' [] (by kernel_rfl) ?_
  intro w901 hb901 hS901
  replace hr := hr.new hb901
  replace hmap := hmap.new hb901
  replace hown := hown.new hb901
  replace hr6 := hr6.new hb901
  replace hB := hB.acc hb901
  have hr_d901 := hr
  have hmap_d901 := hmap
  have hown_d901 := hown
  have hr6_d901 := hr6
  have hB_d901 := hB
  refine WA_take 0 (by kernel_rfl) rfl (fun _ _ => rn_move) ?_
  refine WA_take 1 (by kernel_rfl) rfl (fun _ _ => rn_nilCheckP rfl) ?_
  refine WA_take 2 (by kernel_rfl) rfl (fun _ _ => rn_fieldAddr (off := 0) (by kernel_rfl) rfl) ?_
  refine WA_take 3 (by kernel_rfl) rfl (fun w' hS' => rn_load rfl (Ld.row1 (hr_d901.kpd hS' (by first | (simp; done) | (simp; omega) | (simp [*]; done) | exact notLL (Or.inl (by omega)) | exact notLL (Or.inr (by simp)) | exact fun g hm => Nat.le_trans (by omega) (inLL hm).1 | (intro b o e; cases e; exact notLL (Or.inl (by omega))))) (by kernel_rfl) rfl)) ?_
  refine WA_take 4 (by kernel_rfl) rfl (fun _ _ => rn_move) ?_
  refine WA_take 5 (by kernel_rfl) rfl (fun _ _ => rn_indexSl (e := 34) (sz := 128) (by kernel_rfl) rfl rfl (i) (by omega) (by omega)) ?_
  refine WA_take 6 (by kernel_rfl) rfl (fun w' hS' => rn_load rfl (ld_sec (hown_d901.kpd hS' (by first | (simp; done) | (simp; omega) | (simp [*]; done) | exact notLL (Or.inl (by omega)) | exact notLL (Or.inr (by simp)) | exact fun g hm => Nat.le_trans (by omega) (inLL hm).1 | (intro b o e; cases e; exact notLL (Or.inl (by omega))))).sl (lasts_ok h.ok) hla)) ?_
  refine WA_take 8 (by kernel_rfl) rfl (fun _ _ => rn_move) ?_
  refine WA_take 9 (by kernel_rfl) rfl (fun _ _ => rn_nilCheckP rfl) ?_
  refine WA_take 10 (by kernel_rfl) rfl (fun _ _ => rn_fieldAddr (off := 1) (by kernel_rfl) rfl) ?_
  refine WA_take 11 (by kernel_rfl) rfl (fun w' hS' => rn_load rfl (Ld.row1 (hr_d901.kpd hS' (by first | (simp; done) | (simp; omega) | (simp [*]; done) | exact notLL (Or.inl (by omega)) | exact notLL (Or.inr (by simp)) | exact fun g hm => Nat.le_trans (by omega) (inLL hm).1 | (intro b o e; cases e; exact notLL (Or.inl (by omega))))) (by kernel_rfl) rfl)) ?_
  refine WA_take 12 (by kernel_rfl) rfl (fun _ _ => rn_move) ?_
  refine WA_take 13 (by kernel_rfl) rfl (fun w' hS' => rn_lookupV (k := 3) (e := 52) (.slice none 0 0) (by kernel_rfl) (by kernel_rfl) (by intro w; first | kernel_rfl | rfl) (hmap_d901.kpd hS' (by first | (simp; done) | (simp; omega) | (simp [*]; done) | exact notLL (Or.inl (by omega)) | exact notLL (Or.inr (by simp)) | exact fun g hm => Nat.le_trans (by omega) (inLL hm).1 | (intro b o e; cases e; exact notLL (Or.inl (by omega))))) rfl rfl (i) (by first | rfl | omega) (by omega) (by omega) hlk) ?_
  refine WA_one 7 (by kernel_rfl) ?_
  refine WO_mk rfl rfl (mk_one (e := 34) (.agg (bv Hs).toArray) (bv Hs) (List.replicate 128 (Value.int .u8 0)) 128 (by kernel_rfl) (by kernel_rfl) rfl rfl (by first | rfl | (simp; done) | (simp [bv_length, *]; done)) ⟨by decide, by decide⟩ (fun g18 w18 hg18 hr18 hb18 => ?_))
  have hS902 := hS901.add0 hb18
  refine ⟨hS902, ?_⟩
  have ge_hS901_g18 := Nat.le_trans hS901.size hg18
  have ge_hB_g18 := Nat.le_trans hB.size hg18
  have lt_g_g18 : g < g18 := Nat.lt_of_lt_of_le hr.lt hg18
  have lt_m_g18 : m < g18 := Nat.lt_of_lt_of_le hmap.lt hg18
  have lt_pl_g18 : pl < g18 := Nat.lt_of_lt_of_le hown.lt hg18
  have lt_g6_g18 : g6 < g18 := Nat.lt_of_lt_of_le hr6.lt hg18
  replace hr := hr.new hb18
  replace hmap := hmap.new hb18
  replace hown := hown.new hb18
  replace hr6 := hr6.new hb18
  replace hB := hB.acc hb18
  refine WA_one 14 (by kernel_rfl) ?_
  have hv18 := hr18.owns (base := g18) (m := 1) (sz := 128) (Nat.le_refl _) (by omega) (by omega)
  have hsl2 := hsl.below hB (Nat.le_refl _)
  have sz_hB_25 := hB.size
  refine WO_mk rfl rfl (mk_append (e := 34) (sz := 128) (bytes := 128) (z := .agg (List.replicate 128 (Value.int .u8 0)).toArray) (by kernel_rfl) rfl (by kernel_rfl) rfl (by decide) rfl hv18 rfl hsl2 (bv_one _) (by unfold maxLen; omega) (by omega) (fun hm0 => by omega) (fun v25 w25 hv25 hgr25 hfr25 => ?_))
  have hS903 := hS902.add (Kp.of_grown hgr25) (fun g hm => by first | exact Or.inr hm | exact Or.inr (List.mem_cons_of_mem _ hm) | (have := (hv18.lt g (Option.mem_toList.1 hm)).1; left; omega) | exact (hfr18 g (Option.mem_toList.1 hm)).elim (fun e => Or.inr (Option.mem_toList.2 e)) (fun e => Or.inl (by omega)))
  refine ⟨hS903, ?_⟩
  replace hr := hr.own hv18 hgr25 (by omega)
  replace hr6 := hr6.own hv18 hgr25 (by omega)
  replace hB := hB.own hv18 hgr25 (by omega)
  have hobt := hv25.form' (by omega)
  obtain ⟨ga, oa, ca, rfl, hga, hgl, hcc⟩ := hobt
  have hall := hv25.sl
  rw [← bv_append, hcons, show 1 + (n - 1) = n by omega] at hall
  refine WA_take 15 (by kernel_rfl) rfl (fun _ _ => rn_assign) ?_
  refine WA_done (by kernel_rfl) ?_
  refine thenN ?_
  refine W_seq ?_
  refine W_region ?_
  refine WR_val rfl (rn_move) ?_
  refine WR_val rfl (rn_lenSl (e := 34) (sz := 128) (by kernel_rfl) rfl rfl) ?_
  refine WR_val rfl (rn_mul rfl rfl (Coup.w64 (by omega))) ?_
  refine WR_val rfl (rn_sub rfl rfl (show IntKind.i64.wrap (2 * ((1 + (n - 1) : Nat) : Int) - 1) = ((2 * n - 1 : Nat) : Int) by rw [w64 (by omega)]; omega)) ?_
  refine WR_val rfl (rn_assign) ?_
  refine WR_nil ?_
  refine thenN ?_
  refine W_seq ?_
  refine W_region ?_
  refine WR_val rfl (rn_move) ?_
  refine WR_val rfl (rn_move) ?_
  refine WR_val rfl (rn_rem rfl rfl (by omega) (rfl)) ?_
  refine WR_val rfl (rn_move) ?_
  refine WR_val rfl (rn_add rfl rfl (Coup.w64 (by omega))) ?_
  refine WR_val rfl (rn_move) ?_
  refine WR_val rfl (rn_rem rfl rfl (by omega) ((rm (by omega)).trans hk1)) ?_
  refine WR_val rfl (rn_assign) ?_
  refine WR_nil ?_
  refine thenN ?_
  refine W_seq ?_
  refine W_region ?_
  refine WR_val rfl (rn_move) ?_
  refine WR_val rfl (rn_move) ?_
  refine WR_val rfl (rn_add rfl rfl (Coup.w64 (by omega))) ?_
  refine WR_val rfl (rn_quo0 rfl rfl (by omega) (by omega)) ?_
  refine WR_val rfl (rn_indexSl (e := 34) (sz := 128) (by kernel_rfl) rfl rfl ((k + 1) / 2) (by omega) (by omega)) ?_
  refine WR_val rfl (rn_load rfl (ld_sec hall hv2 hA)) ?_
  refine WR_mk rfl (mk_alloc (List.replicate 128 (Value.int .u8 0)) (by kernel_rfl) (fun g10 w10 hg10 hr10 hb10 => ?_))
  have ge_hB_g10 := Nat.le_trans hB.size hg10
  have lt_g_g10 : g < g10 := Nat.lt_of_lt_of_le hr.lt hg10
  have lt_g6_g10 : g6 < g10 := Nat.lt_of_lt_of_le hr6.lt hg10
  replace hr := hr.new hb10
  replace hr6 := hr6.new hb10
  replace hall := hall.new hb10
  replace hB := hB.acc hb10
  rw [hzb] at hr10
  refine WR_sk rfl (sk_storeA 128 (bv A) rfl rfl hr10 (by kernel_rfl) (by first | assumption | (simp; done) | (simp [bv_length, *]; done)) (by first | assumption | (simp; done) | (simp [bv_length, *]; done) | rfl) (by first | exact bv_one _ | assumption | (simp [Value.oneCell']; done)) (fun w904 hr10 ho904 => ?_))
  replace hr := hr.only ho904 (Nat.ne_of_lt lt_g_g10)
  replace hr6 := hr6.only ho904 (Nat.ne_of_lt lt_g6_g10)
  replace hall := hall.only ho904 (by omega)
  replace hB := ho904.below hB ge_hB_g10
  refine WR_nil ?_
  refine thenN ?_
  refine W_seq ?_
  refine W_seq ?_
  refine W_region ?_
  refine WR_val rfl (rn_move) ?_
  refine WR_val rfl (rn_gtr rfl rfl) ?_
  refine WR_val rfl (rn_move) ?_
  refine WR_part 45 rfl (fun h0 => ?_) (fun h0 => ?_)
  ·
    refine WR_yes rfl ?_
    refine WR_val rfl (rn_move) ?_
    refine WR_yes rfl ?_
    refine WR_val rfl (rn_rem0 rfl rfl (by omega) (by omega)) ?_
    refine WR_yes rfl ?_
    refine WR_val rfl (rn_eql rfl rfl) ?_
    refine WR_val rfl (rn_pick_t rfl) ?_
    refine WR_nil ?_
    refine thenN ?_
    refine W_ifp rfl (fun he => ?_) (fun he => ?_)
    ·
      refine W_seq ?_
      have hobt : ∃ B1, (ver D i)[k / 2 - 1]? = some B1 := ⟨_, List.getElem?_eq_getElem (by omega)⟩
      obtain ⟨B1, hB1⟩ := hobt
      have hobt : ∃ B2, (ver D i)[k / 2]? = some B2 := ⟨_, List.getElem?_eq_getElem (by omega)⟩
      obtain ⟨B2, hB2⟩ := hobt
      have hB1l : (bv B1).length = 128 := by rw [bv_length]; exact hv2 B1 (List.mem_of_getElem? hB1)
      have hB2l : B2.length = 128 := hv2 B2 (List.mem_of_getElem? hB2)
      refine W_region ?_
      refine WR_val rfl (rn_move) ?_
      refine WR_val rfl (rn_move) ?_
      refine WR_val rfl (rn_quo0 rfl rfl (by omega) (by omega)) ?_
      refine WR_val rfl (rn_sub rfl rfl (show IntKind.i64.wrap ((k : Int) / 2 - 1) = ((k / 2 - 1 : Nat) : Int) by rw [w64 (by omega)]; omega)) ?_
      refine WR_val rfl (rn_indexSl (e := 34) (sz := 128) (by kernel_rfl) rfl rfl (k / 2 - 1) (by omega) (by omega)) ?_
      refine WR_val rfl (rn_load rfl (ld_sec hall hv2 hB1)) ?_
      refine WR_sk rfl (sk_storeA 128 (bv B1) rfl rfl hr10 (by kernel_rfl) (by first | assumption | (simp; done) | (simp [bv_length, *]; done)) (by first | assumption | (simp; done) | (simp [bv_length, *]; done) | rfl) (by first | exact bv_one _ | assumption | (simp [Value.oneCell']; done)) (fun w905 hr10 ho905 => ?_))
      replace hr := hr.only ho905 (Nat.ne_of_lt lt_g_g10)
      replace hr6 := hr6.only ho905 (Nat.ne_of_lt lt_g6_g10)
      replace hall := hall.only ho905 (by omega)
      replace hB := ho905.below hB ge_hB_g10
      refine WR_nil ?_
      refine thenN ?_
      refine W_draw' [g10] (by kernel_rfl) ?_
      intro w906 hb906 hS906
      replace hr := hr.new hb906
      replace hr6 := hr6.new hb906
      replace hall := hall.new hb906
      replace hr10 := hr10.new hb906
      replace hB := hB.acc hb906
      have hr_d906 := hr
      have hr6_d906 := hr6
      have hall_d906 := hall
      have hr10_d906 := hr10
      have hB_d906 := hB
      refine WA_take 0 (by kernel_rfl) rfl (fun _ _ => rn_sliceAr1' (e := 5) (n := 128) (0) (64) (128) (64) (by kernel_rfl) rfl rfl ⟨_, _, rfl, rfl⟩ rfl (by simp) (by omega) (by omega) (by omega) (by omega) (by omega)) ?_
      refine WA_take 1 (by kernel_rfl) rfl (fun _ _ => rn_move) ?_
      refine WA_take 2 (by kernel_rfl) rfl (fun _ _ => rn_move) ?_
      refine WA_take 3 (by kernel_rfl) rfl (fun _ _ => rn_quo0 rfl rfl (by omega) (by omega)) ?_
      refine WA_take 4 (by kernel_rfl) rfl (fun _ _ => rn_indexSl (e := 34) (sz := 128) (by kernel_rfl) rfl rfl (k / 2) (by omega) (by omega)) ?_
      refine WA_take 5 (by kernel_rfl) rfl (fun _ _ => rn_sliceAr1' (e := 5) (n := 128) (0) (64) (128) (64) (by kernel_rfl) rfl rfl ⟨_, _, rfl, rfl⟩ rfl (by simp) (by omega) (by omega) (by omega) (by omega) (by omega)) ?_
      refine WA_one 6 (by kernel_rfl) ?_
      refine WO_mk rfl rfl (mk_copy (e := 5) (by kernel_rfl) (by kernel_rfl) rfl rfl g10 (0) hr10 (bv (B2.take 64)) (by rw [bv_length, List.length_take, hB2l]; rfl) (fun _ => ⟨rfl, _, rfl, sec_src hall hv2 hB2 64⟩) (by rw [hB1l, bv_length, List.length_take]; omega) (bv_one _) (fun w62 hr10 ho62 => ?_))
      have hS907 := hS906.add1 ho62 (by first | (left; omega) | (right; simp; done) | (right; simp; omega))
      refine ⟨hS907, ?_⟩
      replace hr := hr.only ho62 (Nat.ne_of_lt lt_g_g10)
      replace hr6 := hr6.only ho62 (Nat.ne_of_lt lt_g6_g10)
      replace hall := hall.only ho62 (by omega)
      replace hB := ho62.below hB ge_hB_g10
      rw [splice_torn hB2l] at hr10
      refine WA_done (by kernel_rfl) ?_
      refine thenN ?_
      refine W_seq ?_
      have hTl : (bv (tornS B2 B1)).length = 128 := by rw [bv_length] at hB1l ⊢; rw [tornS, List.length_append, List.length_take, List.length_drop]; omega
      refine W_region ?_
      refine WR_val rfl (rn_load rfl (Ld.rowA (k := 128) hr10 (by kernel_rfl) (by kernel_rfl) (by first | (simp; done) | (simp [bv_length, *]; done) | assumption))) ?_
      refine WR_sk rfl (sk_storeA 128 (bv (tornS B2 B1)) rfl rfl hr6 (by kernel_rfl) (by first | assumption | (simp; done) | (simp [bv_length, *]; done)) (by first | assumption | (simp; done) | (simp [bv_length, *]; done) | rfl) (by first | exact bv_one _ | assumption | (simp [Value.oneCell']; done)) (fun w908 hr6 ho908 => ?_))
      replace hr := hr.only ho908 (Nat.ne_of_lt lt_g_g6)
      replace hall := hall.only ho908 (by omega)
      replace hr10 := hr10.only ho908 (Nat.ne_of_gt lt_g6_g10)
      replace hB := ho908.below hB ge_hB_g6
      refine WR_nil ?_
      refine thenN ?_
      refine W_ret ?_
      refine ret_ret [_] ⟨⟨_, rfl, Ld.rowA (k := 128) hr6 (by kernel_rfl) (by kernel_rfl) (by first | (simp; done) | (simp [bv_length, *]; done) | assumption)⟩, trivial⟩ ?_
      refine ⟨?_, hB⟩
      rw [leftAt, if_neg (by omega), if_neg (by omega), List.getD_eq_getElem?_getD, hB2, List.getD_eq_getElem?_getD, hB1]
      rfl
    ·
      refine W_skip ?_
      refine thenN ?_
      refine W_seq ?_
      refine W_region ?_
      refine WR_val rfl (rn_load rfl (Ld.rowA (k := 128) hr10 (by kernel_rfl) (by kernel_rfl) (by first | (simp; done) | (simp [bv_length, *]; done) | assumption))) ?_
      refine WR_sk rfl (sk_storeA 128 (bv A) rfl rfl hr6 (by kernel_rfl) (by first | assumption | (simp; done) | (simp [bv_length, *]; done)) (by first | assumption | (simp; done) | (simp [bv_length, *]; done) | rfl) (by first | exact bv_one _ | assumption | (simp [Value.oneCell']; done)) (fun w909 hr6 ho909 => ?_))
      replace hr := hr.only ho909 (Nat.ne_of_lt lt_g_g6)
      replace hall := hall.only ho909 (by omega)
      replace hr10 := hr10.only ho909 (Nat.ne_of_gt lt_g6_g10)
      replace hB := ho909.below hB ge_hB_g6
      refine WR_nil ?_
      refine thenN ?_
      refine W_ret ?_
      refine ret_ret [_] ⟨⟨_, rfl, Ld.rowA (k := 128) hr6 (by kernel_rfl) (by kernel_rfl) (by first | (simp; done) | (simp [bv_length, *]; done) | assumption)⟩, trivial⟩ ?_
      refine ⟨?_, hB⟩
      rw [leftAt, if_pos (by omega), hAg]
      rfl
  ·
    have hk0 : k = 0 := by omega
    refine WR_no rfl rfl ?_
    refine WR_no rfl rfl ?_
    refine WR_no rfl rfl ?_
    refine WR_val rfl (rn_pick_f rfl) ?_
    refine WR_nil ?_
    refine thenN ?_
    refine W_f rfl ?_
    refine W_skip ?_
    refine thenN ?_
    refine W_seq ?_
    refine W_region ?_
    refine WR_val rfl (rn_load rfl (Ld.rowA (k := 128) hr10 (by kernel_rfl) (by kernel_rfl) (by first | (simp; done) | (simp [bv_length, *]; done) | assumption))) ?_
    refine WR_sk rfl (sk_storeA 128 (bv A) rfl rfl hr6 (by kernel_rfl) (by first | assumption | (simp; done) | (simp [bv_length, *]; done)) (by first | assumption | (simp; done) | (simp [bv_length, *]; done) | rfl) (by first | exact bv_one _ | assumption | (simp [Value.oneCell']; done)) (fun w910 hr6 ho910 => ?_))
    replace hr := hr.only ho910 (Nat.ne_of_lt lt_g_g6)
    replace hall := hall.only ho910 (by omega)
    replace hr10 := hr10.only ho910 (Nat.ne_of_gt lt_g6_g10)
    replace hB := ho910.below hB ge_hB_g6
    refine WR_nil ?_
    refine thenN ?_
    refine W_ret ?_
    refine ret_ret [_] ⟨⟨_, rfl, Ld.rowA (k := 128) hr6 (by kernel_rfl) (by kernel_rfl) (by first | (simp; done) | (simp [bv_length, *]; done) | assumption)⟩, trivial⟩ ?_
    refine ⟨?_, hB⟩
    have hA0 : headS (ver D i) = A := by
      have h1 := hA
      rw [hk0] at h1
      have hobt := List.exists_cons_of_ne_nil hv1
      obtain ⟨a, l, e⟩ := hobt
      rw [e] at h1 ⊢
      simpa [headS] using h1
    rw [leftAt, hk0, if_neg (by omega), if_pos rfl, hA0]
    rfl
end Go.Proofs.Ytpndhildmfmcgaa
