/- The document's disk: what a pick leaves; Crash. -/
import Derived.Test.YtpndhildmfmcgaaDiskR
namespace Go.Proofs.Ytpndhildmfmcgaa
open Go Go.RowKit Coup

/-- All that may be left, of versions up to the k-th. -/
def allS (v : List Sec) : Nat → List Sec
  | 0 => [headS v]
  | k + 1 => allS v k ++ [v.getD (k + 1) zeroS, tornS (v.getD (k + 1) zeroS) (v.getD k zeroS)]
theorem allS_len (v : List Sec) : ∀ k, (allS v k).length = 2 * k + 1
  | 0 => rfl
  | k + 1 => by rw [allS, List.length_append, allS_len v k]; simp; omega
theorem allS_at (v : List Sec) : ∀ (k j : Nat), j < 2 * k + 1 → (allS v k)[j]? = some (leftAt v j)
  | 0, j, h => by
    obtain rfl : j = 0 := by omega
    rfl
  | k + 1, j, h => by
    rw [allS]
    by_cases h1 : j < 2 * k + 1
    · rw [List.getElem?_append_left (by rw [allS_len]; exact h1)]
      exact allS_at v k j h1
    · rw [List.getElem?_append_right (by rw [allS_len]; omega), allS_len]
      by_cases h2 : j = 2 * k + 1
      · rw [h2, Nat.sub_self, leftAt, if_pos (by omega), show (2 * k + 1 + 1) / 2 = k + 1 by omega]; rfl
      · obtain rfl : j = 2 * k + 2 := by omega
        rw [show 2 * k + 2 - (2 * k + 1) = 1 by omega, leftAt, if_neg (by omega), if_neg (by omega), show (2 * k + 2) / 2 = k + 1 by omega, Nat.add_sub_cancel]; rfl
theorem getD_ok {v : List Sec} (h : secsOk v) (j : Nat) : (v.getD j zeroS).length = 128 := by
  rw [List.getD_eq_getElem?_getD]
  cases hj : v[j]? with
  | none => simp [zeroS]
  | some s => exact h s (List.mem_of_getElem? hj)
theorem torn_len {a b : Sec} (ha : a.length = 128) (hb : b.length = 128) : (tornS a b).length = 128 := by
  rw [tornS, List.length_append, List.length_take, List.length_drop]; omega
theorem allS_ok {v : List Sec} (h : secsOk v) : ∀ k, secsOk (allS v k)
  | 0 => fun s hs => by rw [List.mem_singleton.1 hs]; exact headS_ok h
  | k + 1 => fun s hs => by
    rw [allS] at hs
    rcases List.mem_append.1 hs with hs | hs
    · exact allS_ok h k s hs
    · simp only [List.mem_cons, List.not_mem_nil, or_false] at hs
      rcases hs with rfl | rfl
      · exact getD_ok h _
      · exact torn_len (getD_ok h _) (getD_ok h _)
set_option maxRecDepth 8000 in
set_option maxHeartbeats 1000000 in
theorem rleft47 {w : World} {v : List Sec} {p : Option Addr} {c : Nat} (h : SlAt w p v.length 128 (bv v.flatten)) (hv1 : v ≠ []) (hv2 : secsOk v) (hv3 : v.length ≤ 100000) (pick : Int) :
    Calls Try.prog 47 [.slice p v.length c, .int .i64 pick].toArray w (Ret fun u w' => u = .agg (bv (leftS v pick)).toArray ∧ Below w.heap.size w w') := by
  have hB := Below.refl w.heap.size w
  have hml : maxLen = 9223372036854775807 := by decide
  have hpos := List.length_pos_iff.2 hv1
  obtain ⟨g, o, rfl, hlg⟩ := h.some (by omega)
  have hsl := h
  obtain ⟨n, hn⟩ : ∃ n, v.length = n + 1 := ⟨v.length - 1, by omega⟩
  have hh : v[0]? = some (headS v) := by
    obtain ⟨a, l, rfl⟩ := List.exists_cons_of_ne_nil hv1
    rfl
  have hhl := headS_ok hv2
  have hat : ∀ j, j < v.length → v[j]? = some (v.getD j zeroS) := fun j hj => by rw [List.getD_eq_getElem?_getD, List.getElem?_eq_getElem hj]; rfl
  obtain ⟨hk1, hk2, hk3⟩ := pick_mod pick (2 * n + 1) (by omega)
  obtain ⟨k, hkk, hkl⟩ : ∃ k : Nat, pick % ((2 * n + 1 : Nat) : Int) = (k : Int) ∧ k < 2 * n + 1 := by
    have h1 := Int.emod_nonneg pick (show ((2 * n + 1 : Nat) : Int) ≠ 0 by omega)
    have h2 := Int.emod_lt_of_pos pick (show (0 : Int) < ((2 * n + 1 : Nat) : Int) by omega)
    exact ⟨(pick % ((2 * n + 1 : Nat) : Int)).toNat, by omega, by omega⟩
  have hleft : leftS v pick = leftAt v k := by rw [leftS, show 2 * v.length - 1 = 2 * n + 1 by omega, hkk, Int.toNat_natCast]
  rw [hleft]
  rw [hkk] at hk1
  obtain ⟨H, hH⟩ : ∃ H, headS v = H := ⟨_, rfl⟩
  obtain ⟨Z, hzz, hzb, hzl⟩ := zeroSQ
  have hHl : (bv H).length = 128 := by rw [bv_length, ← hH]; exact hhl
  rw [hH] at hh
  refine calls_W (fn := Try.f47) (rs := [.cell 4 34]) (n := 49) Try.func47 rfl rfl Try.ntmps47 (by kernel_rfl) rfl ?_
  refine W_seq ?_
  refine W_region ?_
  refine WR_mk rfl (mk_alloc (List.replicate 128 (Value.int .u8 0)) (by kernel_rfl) (fun g4 w4 hg4 hr4 hb4 => ?_))
  have ge_hB_g4 := Nat.le_trans hB.size hg4
  replace hsl := hsl.new hb4
  replace hB := hB.acc hb4
  rw [hzb] at hr4
  refine WR_nil ?_
  refine thenN ?_
  refine W_seq ?_
  refine W_region ?_
  refine WR_val rfl (rn_move) ?_
  refine WR_val rfl (rn_indexSl (e := 34) (sz := 128) (by kernel_rfl) rfl rfl (0) (by omega) (by omega)) ?_
  refine WR_val rfl (rn_load rfl ((by have := ld_sec hsl hv2 hh; simpa using this))) ?_
  refine WR_mk rfl (mk_one (e := 34) (.agg (bv H).toArray) (bv H) (List.replicate 128 (Value.int .u8 0)) 128 (by kernel_rfl) (by kernel_rfl) rfl rfl (by first | rfl | (simp; done) | (simp [bv_length, *]; done)) ⟨by decide, by decide⟩ (fun g10 w10 hg10 hr10 hb10 => ?_))
  have ge_hB_g10 := Nat.le_trans hB.size hg10
  have lt_g4_g10 : g4 < g10 := Nat.lt_of_lt_of_le hr4.lt hg10
  replace hsl := hsl.new hb10
  replace hr4 := hr4.new hb10
  replace hB := hB.acc hb10
  refine WR_val rfl (rn_assign) ?_
  refine WR_nil ?_
  refine thenN ?_
  refine W_seq ?_
  refine W_seq ?_
  refine W_region ?_
  refine WR_val rfl (rn_assign) ?_
  refine WR_nil ?_
  refine thenN ?_
  refine W_block ?_
  have ho0 : ownsAt w10 (g4 + 1) 34 128 (.slice (some ⟨g10, 0, none⟩) 1 1) (2 * 0 + 1) (bv (allS v 0).flatten) := by
    have := hr10.owns (base := g4 + 1) (m := 1) (sz := 128) (by omega) (by omega) (by omega)
    rw [show (allS v 0).flatten = H by rw [← hH]; simp [allS]]
    exact this
  refine W_loop (α := Nat × Value) (0, .slice (some ⟨g10, 0, none⟩) 1 1) (fun k => [(6, .int .i64 ((k.1 + 1 : Nat) : Int)), (5, k.2), (0, .slice (some ⟨g, o, none⟩) v.length c), (1, .int .i64 pick), (4, .pointer (some ⟨g4, 0, none⟩))])
    (fun k w' => k.1 ≤ n ∧ ownsAt w' (g4 + 1) 34 128 k.2 (2 * k.1 + 1) (bv (allS v k.1).flatten) ∧ row w' g4 (bv Z) 34 ∧ Below w.heap.size w w') (fun k => n - k.1)
    ⟨rfl, rfl, rfl, rfl, rfl, rfl⟩ ⟨Nat.zero_le _, ho0, hr4, hB⟩ ?_
  clear ho0 hr4 hB
  rintro ⟨i, u⟩ f wr ⟨hi, hu, hr4, hB⟩
  dsimp only at hi hu ⊢
  have hsl := h.below hB (Nat.le_refl _)
  have hgg : g < g4 + 1 := by omega
  have hgu : u.ownBlock ≠ some g := fun e => by have := (hu.lt g e).1; omega
  refine W_seq ?_
  refine W_seq ?_
  refine W_region ?_
  refine WR_val rfl (rn_move) ?_
  refine WR_val rfl (rn_move) ?_
  refine WR_val rfl (rn_lenSl (e := 34) (sz := 128) (by kernel_rfl) rfl rfl) ?_
  refine WR_val rfl (rn_lss rfl rfl) ?_
  refine WR_nil ?_
  refine thenN ?_
  refine W_ifp rfl (fun hlt => ?_) (fun hlt => ?_)
  ·
    refine W_skip ?_
    refine thenN ?_
    refine W_seq ?_
    refine W_block ?_
    have hA := hat (i + 1) (by omega)
    have hA2 := hat i (by omega)
    have hAl := getD_ok hv2 (i + 1)
    have hA2l := getD_ok hv2 i
    have hall : (allS v (i + 1)).flatten = (allS v i).flatten ++ (v.getD (i + 1) zeroS ++ tornS (v.getD (i + 1) zeroS) (v.getD i zeroS)) := by rw [allS, List.flatten_append]; simp
    have hTl := torn_len hAl hA2l
    have hobt : ∃ A, v.getD (i + 1) zeroS = A := ⟨_, rfl⟩
    obtain ⟨A, hAe⟩ := hobt
    have hobt : ∃ A2, v.getD i zeroS = A2 := ⟨_, rfl⟩
    obtain ⟨A2, hA2e⟩ := hobt
    rw [hAe] at hA hAl hall hTl
    rw [hA2e] at hA2 hA2l hall hTl
    have hT := fun w' => torn24 A A2 w' hAl hA2l
    generalize tornS A A2 = T at hT hall hTl
    have hAL : (bv A).length = 128 := by rw [bv_length]; exact hAl
    have hTL : (bv T).length = 128 := by rw [bv_length]; exact hTl
    have q1 := hr4.lt
    refine W_draw' (u.ownBlock.toList) (by kernel_rfl) ?_
    intro w901 hb901 hS901
    replace hsl := hsl.new hb901
    replace hr4 := hr4.new hb901
    replace hu := hu.new hb901
    replace hB := hB.acc hb901
    have hsl_d901 := hsl
    have hr4_d901 := hr4
    have hu_d901 := hu
    have hB_d901 := hB
    refine WA_take 0 (by kernel_rfl) rfl (fun _ _ => rn_move) ?_
    refine WA_take 1 (by kernel_rfl) rfl (fun _ _ => rn_move) ?_
    refine WA_take 2 (by kernel_rfl) rfl (fun _ _ => rn_move) ?_
    refine WA_take 3 (by kernel_rfl) rfl (fun _ _ => rn_indexSl (e := 34) (sz := 128) (by kernel_rfl) rfl rfl (i + 1) (by omega) (by omega)) ?_
    refine WA_take 4 (by kernel_rfl) rfl (fun w' hS' => rn_load rfl (ld_sec (hsl_d901.kpd hS' (by first | (simp; done) | (simp; omega) | (simp [*]; done) | exact notLL (Or.inl (by omega)) | exact notLL (Or.inr (by simp)) | exact fun g hm => Nat.le_trans (by omega) (inLL hm).1 | (intro b o e; cases e; exact notLL (Or.inl (by omega))))) hv2 hA)) ?_
    refine WA_take 7 (by kernel_rfl) rfl (fun _ _ => rn_move) ?_
    refine WA_take 8 (by kernel_rfl) rfl (fun _ _ => rn_move) ?_
    refine WA_take 9 (by kernel_rfl) rfl (fun _ _ => rn_indexSl (e := 34) (sz := 128) (by kernel_rfl) rfl rfl (i + 1) (by omega) (by omega)) ?_
    refine WA_take 10 (by kernel_rfl) rfl (fun w' hS' => rn_load rfl (ld_sec (hsl_d901.kpd hS' (by first | (simp; done) | (simp; omega) | (simp [*]; done) | exact notLL (Or.inl (by omega)) | exact notLL (Or.inr (by simp)) | exact fun g hm => Nat.le_trans (by omega) (inLL hm).1 | (intro b o e; cases e; exact notLL (Or.inl (by omega))))) hv2 hA)) ?_
    refine WA_take 11 (by kernel_rfl) rfl (fun _ _ => rn_move) ?_
    refine WA_take 12 (by kernel_rfl) rfl (fun _ _ => rn_move) ?_
    refine WA_take 13 (by kernel_rfl) rfl (fun _ _ => rn_sub rfl rfl (show IntKind.i64.wrap (((i + 1 : Nat) : Int) - 1) = (i : Int) by rw [w64 (by omega)]; omega)) ?_
    refine WA_take 14 (by kernel_rfl) rfl (fun _ _ => rn_indexSl (e := 34) (sz := 128) (by kernel_rfl) rfl rfl (i) (by omega) (by omega)) ?_
    refine WA_take 15 (by kernel_rfl) rfl (fun w' hS' => rn_load rfl (ld_sec (hsl_d901.kpd hS' (by first | (simp; done) | (simp; omega) | (simp [*]; done) | exact notLL (Or.inl (by omega)) | exact notLL (Or.inr (by simp)) | exact fun g hm => Nat.le_trans (by omega) (inLL hm).1 | (intro b o e; cases e; exact notLL (Or.inl (by omega))))) hv2 hA2)) ?_
    refine WA_one 5 (by kernel_rfl) ?_
    refine WO_mk rfl rfl (mk_one (e := 34) (.agg (bv A).toArray) (bv A) (List.replicate 128 (Value.int .u8 0)) 128 (by kernel_rfl) (by kernel_rfl) rfl rfl (by first | rfl | (simp; done) | (simp [bv_length, *]; done)) ⟨by decide, by decide⟩ (fun g22 w22 hg22 hr22 hb22 => ?_))
    have hS902 := hS901.add0 hb22
    refine ⟨hS902, ?_⟩
    have ge_hS901_g22 := Nat.le_trans hS901.size hg22
    have ge_hB_g22 := Nat.le_trans hB.size hg22
    have lt_g4_g22 : g4 < g22 := Nat.lt_of_lt_of_le hr4.lt hg22
    replace hsl := hsl.new hb22
    replace hr4 := hr4.new hb22
    replace hu := hu.new hb22
    replace hB := hB.acc hb22
    refine WA_one 6 (by kernel_rfl) ?_
    have hs22 := hr22.slA (m := 1) (sz := 128) hAL (by omega)
    have q2 := hS902.size
    have sz_hB_23 := hB.size
    refine WO_mk rfl rfl (mk_append (e := 34) (sz := 128) (bytes := 128) (z := .agg (List.replicate 128 (Value.int .u8 0)).toArray) (by kernel_rfl) rfl (by kernel_rfl) rfl (by decide) rfl hu rfl hs22 (bv_one _) (by unfold maxLen; omega) (by omega) (fun hm0 => by omega) (fun v23 w23 hv23 hgr23 hfr23 => ?_))
    have hS903 := hS902.ownS hu hgr23 (by first | (left; omega) | exact Or.inr (fun _ h => h) | exact Or.inr (fun _ h => List.mem_cons_of_mem _ h))
    refine ⟨hS903, ?_⟩
    replace hsl := hsl.own hu hgr23 (by omega)
    replace hr4 := hr4.own hu hgr23 (by omega)
    replace hB := hB.own hu hgr23 (by omega)
    refine WA_one 16 (by kernel_rfl) ?_
    refine WO_ent rfl rfl (rn_call (by kernel_rfl) rfl) (hT w23) ?_
    rintro _ w33 ⟨rfl, hb33⟩
    have hS904 := hS903.add0 hb33
    refine ⟨hS904, ?_⟩
    replace hsl := hsl.new hb33
    replace hr4 := hr4.new hb33
    replace hv23 := hv23.new hb33
    replace hB := hB.acc hb33
    refine WA_one 17 (by kernel_rfl) ?_
    refine WO_mk rfl rfl (mk_one (e := 34) (.agg (bv T).toArray) (bv T) (List.replicate 128 (Value.int .u8 0)) 128 (by kernel_rfl) (by kernel_rfl) rfl rfl (by first | rfl | (simp; done) | (simp [bv_length, *]; done)) ⟨by decide, by decide⟩ (fun g34 w34 hg34 hr34 hb34 => ?_))
    have hS905 := hS904.add0 hb34
    refine ⟨hS905, ?_⟩
    have ge_hS904_g34 := Nat.le_trans hS904.size hg34
    have ge_hB_g34 := Nat.le_trans hB.size hg34
    have lt_g4_g34 : g4 < g34 := Nat.lt_of_lt_of_le hr4.lt hg34
    replace hsl := hsl.new hb34
    replace hr4 := hr4.new hb34
    replace hv23 := hv23.new hb34
    replace hB := hB.acc hb34
    refine WA_one 18 (by kernel_rfl) ?_
    have hs34 := hr34.slA (m := 1) (sz := 128) hTL (by omega)
    have sz_hB_35 := hB.size
    refine WO_mk rfl rfl (mk_append (e := 34) (sz := 128) (bytes := 128) (z := .agg (List.replicate 128 (Value.int .u8 0)).toArray) (by kernel_rfl) rfl (by kernel_rfl) rfl (by decide) rfl hv23 rfl hs34 (bv_one _) (by unfold maxLen; omega) (by omega) (fun hm0 => by omega) (fun v35 w35 hv35 hgr35 hfr35 => ?_))
    have hS906 := hS905.add (Kp.of_grown hgr35) (fun g hm => by first | exact Or.inr hm | exact Or.inr (List.mem_cons_of_mem _ hm) | (have := (hv23.lt g (Option.mem_toList.1 hm)).1; left; omega) | exact (hfr23 g (Option.mem_toList.1 hm)).elim (fun e => Or.inr (Option.mem_toList.2 e)) (fun e => Or.inl (by omega)))
    refine ⟨hS906, ?_⟩
    replace hsl := hsl.own hv23 hgr35 (by omega)
    replace hr4 := hr4.own hv23 hgr35 (by omega)
    replace hB := hB.own hv23 hgr35 (by omega)
    refine WA_take 19 (by kernel_rfl) rfl (fun _ _ => rn_assign) ?_
    refine WA_done (by kernel_rfl) ?_
    refine blockN ?_
    refine thenN ?_
    refine W_region ?_
    refine WR_val rfl (rn_move) ?_
    refine WR_val rfl (rn_add rfl rfl (Coup.w64 (by omega))) ?_
    refine WR_val rfl (rn_assign) ?_
    refine WR_nil ?_
    rw [List.append_assoc, ← bv_append, ← bv_append, ← hall] at hv35
    refine loopN ⟨(i + 1, v35), by omega, ⟨by go_num, rfl, rfl, rfl, rfl, rfl⟩, by omega, by rw [show 2 * (i + 1) + 1 = 2 * i + 1 + 1 + 1 by omega]; exact hv35, hr4, hB⟩
  ·
    obtain rfl : i = n := by omega
    have hkA := allS_at v i k hkl
    have hks := allS_ok hv2 i
    have hkl2 := leftAt_ok hv2 k
    obtain ⟨p, cu, rfl⟩ := hu.form
    have hul := hu.sl
    have hobt := hul.some (by omega)
    obtain ⟨gu, ou, rfl, hgu2⟩ := hobt
    have hgu3 := (hu.lt gu rfl).1
    have hobt : ∃ L, leftAt v k = L := ⟨_, rfl⟩
    obtain ⟨L, hL⟩ := hobt
    rw [hL] at hkA hkl2
    rw [hL]
    have hLl : (bv L).length = 128 := by rw [bv_length]; exact hkl2
    refine W_exit ?_
    refine thenX ?_
    refine loopX ?_
    refine blockX ?_
    refine thenN ?_
    refine W_seq ?_
    refine W_region ?_
    refine WR_val rfl (rn_move) ?_
    refine WR_val rfl (rn_move) ?_
    refine WR_val rfl (rn_move) ?_
    refine WR_val rfl (rn_lenSl (e := 34) (sz := 128) (by kernel_rfl) rfl rfl) ?_
    refine WR_val rfl (rn_rem rfl rfl (by omega) (rfl)) ?_
    refine WR_val rfl (rn_move) ?_
    refine WR_val rfl (rn_lenSl (e := 34) (sz := 128) (by kernel_rfl) rfl rfl) ?_
    refine WR_val rfl (rn_add rfl rfl (Coup.w64 (by omega))) ?_
    refine WR_val rfl (rn_move) ?_
    refine WR_val rfl (rn_lenSl (e := 34) (sz := 128) (by kernel_rfl) rfl rfl) ?_
    refine WR_val rfl (rn_rem rfl rfl (by omega) ((rm (by omega)).trans hk1)) ?_
    refine WR_val rfl (rn_indexSl (e := 34) (sz := 128) (by kernel_rfl) rfl rfl (k) (by omega) (by omega)) ?_
    refine WR_val rfl (rn_load rfl (ld_sec hul hks hkA)) ?_
    refine WR_sk rfl (sk_storeA 128 (bv L) rfl rfl hr4 (by kernel_rfl) (by first | assumption | (simp; done) | (simp [bv_length, *]; done)) (by first | assumption | (simp; done) | (simp [bv_length, *]; done) | rfl) (by first | exact bv_one _ | assumption | (simp [Value.oneCell']; done)) (fun w907 hr4 ho907 => ?_))
    replace hsl := hsl.only ho907 (by omega)
    replace hul := hul.only ho907 (by omega)
    replace hB := ho907.below hB ge_hB_g4
    refine WR_nil ?_
    refine thenN ?_
    refine W_ret ?_
    refine ret_ret [_] ⟨⟨_, rfl, Ld.rowA (k := 128) hr4 (by kernel_rfl) (by kernel_rfl) (by first | (simp; done) | (simp [bv_length, *]; done) | assumption)⟩, trivial⟩ ?_
    exact ⟨rfl, hB⟩
set_option maxRecDepth 8000 in
set_option maxHeartbeats 1000000 in
theorem rcrash34 {w : World} {g pv : Nat} {G : List Nat} {D : Dk} {ov cv : Nat} {vs : List Value} (h : RfM w g pv G D ov cv vs) (pp : Option Addr) (np cp : Nat) (picks : List Int) (hpk : SlAt w pp np 1 (iv picks)) (hpkb : 0 < np → ∀ b o, pp = some ⟨b, o, none⟩ → b ∉ [g, pv]) :
    Calls Try.prog 34 [.pointer (some ⟨g, 0, none⟩), .slice pp np cp].toArray w
      (Ret fun _ w' => (∃ G' vs', RfM w' g pv G' (crashD D picks) ov cv vs' ∧ ∀ b ∈ G', b ∈ G ∨ w.heap.size ≤ b) ∧ Kp [g, pv] w w') := by
  have hK := KpB.refl [g, pv] w
  have hml : maxLen = 9223372036854775807 := by decide
  have hOp := ropen35 h
  have hoil := opI_len D
  have hlg := h.row.lt
  have hlp := h.own.lt
  have hne0 := h.ne.1
  have hn8 := h.ok.n
  have hnp : np = picks.length := by simpa [iv_length] using hpk.len.symm
  have hoc : (opN D).length ≤ D.V.length := Nat.le_trans (List.length_filter_le _ _) (by rw [List.length_range]; exact Nat.le_refl _)
  rw [crashD]
  obtain ⟨X, hX⟩ : ∃ X, (setXs D fun k i => leftS (ver D i) (picks.getD k 0)) = X := ⟨_, rfl⟩
  rw [hX]
  have hXl : X.length = (opN D).length := by rw [← hX, setXs_len]
  refine calls_W (fn := Try.f34) (rs := []) (n := 51) Try.func34 rfl rfl Try.ntmps34 (by kernel_rfl) rfl ?_
  refine W_seq ?_
  refine W_region ?_
  refine WR_val rfl (rn_move) ?_
  refine WR_ent rfl (rn_call (by kernel_rfl) rfl) (hOp) ?_
  rintro _ w8 ⟨p, c, rfl, hsl, hpb, hb8⟩
  replace hK := hK.new hb8
  refine WR_val rfl (rn_assign) ?_
  refine WR_nil ?_
  refine thenN ?_
  refine W_seq ?_
  refine W_seq ?_
  refine W_region ?_
  refine WR_val rfl (rn_assign) ?_
  refine WR_nil ?_
  refine thenN ?_
  refine W_block ?_
  have hpn : ∀ b o, p = some ⟨b, o, none⟩ → b ∉ [g, pv] := fun b o e hm => by
    have := hpb b o e
    simp only [List.mem_cons, List.not_mem_nil, or_false] at hm
    omega
  have hM0 : RfM w8 g pv G (setAll D (X.take 0)) ov cv vs := h.new (by assumption)
  refine W_loop (α := Nat) 0 (fun k => [(5, .int .i64 (k : Nat)), (4, .slice p (opI D).length c), (0, .pointer (some ⟨g, 0, none⟩)), (1, .slice pp np cp)])
    (fun k w' => k ≤ (opN D).length ∧ (∃ G' vs', RfM w' g pv G' (setAll D (X.take k)) ov cv vs' ∧ ∀ b ∈ G', b ∈ G ∨ w.heap.size ≤ b) ∧ SlAt w' p (opI D).length 1 (iv (opI D)) ∧ KpB [g, pv] w w') (fun k => (opN D).length - k)
    ⟨rfl, rfl, rfl, rfl, rfl⟩ ⟨Nat.zero_le _, ⟨G, vs, hM0, fun b hb => .inl hb⟩, hsl, hK⟩ ?_
  clear hM0 hsl hK
  rintro k f wr ⟨hk, ⟨G', vs', hM, hG'⟩, hsl, hK⟩
  have hVl := setAll_len D (X.take k)
  have hpk2 := hpk.kpd0 hK.k hpkb
  have hr := hM.row
  have hown := hM.own
  rw [hVl] at hr hown
  refine W_seq ?_
  refine W_seq ?_
  refine W_region ?_
  refine WR_val rfl (rn_move) ?_
  refine WR_val rfl (rn_move) ?_
  refine WR_val rfl (rn_lenSl (e := 3) (sz := 1) (by kernel_rfl) rfl rfl) ?_
  refine WR_val rfl (rn_lss rfl rfl) ?_
  refine WR_nil ?_
  refine thenN ?_
  refine W_ifp rfl (fun hlt => ?_) (fun hlt => ?_)
  ·
    refine W_skip ?_
    refine thenN ?_
    refine W_seq ?_
    refine W_block ?_
    refine W_seq ?_
    refine W_region ?_
    refine WR_val rfl (rn_assign) ?_
    refine WR_nil ?_
    refine thenN ?_
    refine W_cut (fun pk : Int => [(6, .int .i64 pk), (5, .int .i64 (k : Nat)), (4, .slice p (opI D).length c), (0, .pointer (some ⟨g, 0, none⟩)), (1, .slice pp np cp)]) (fun pk w' => pk = picks.getD k 0 ∧ wr = w') ?_ ?_
    ·
      refine W_seq ?_
      refine W_region ?_
      refine WR_val rfl (rn_move) ?_
      refine WR_val rfl (rn_move) ?_
      refine WR_val rfl (rn_lenSl (e := 3) (sz := 1) (by kernel_rfl) rfl rfl) ?_
      refine WR_val rfl (rn_lss rfl rfl) ?_
      refine WR_nil ?_
      refine thenN ?_
      refine W_ifp rfl (fun hkp => ?_) (fun hkp => ?_)
      ·
        have hobt : ∃ pk, picks[k]? = some pk := ⟨_, List.getElem?_eq_getElem (by omega)⟩
        obtain ⟨pk, hpk3⟩ := hobt
        have hobt := hpk2.some (by omega)
        obtain ⟨gq, oq, rfl, hgq⟩ := hobt
        refine W_region ?_
        refine WR_val rfl (rn_move) ?_
        refine WR_val rfl (rn_move) ?_
        refine WR_val rfl (rn_indexSl1 (e := 3) (by kernel_rfl) rfl rfl (k) (by omega) (by omega)) ?_
        refine WR_val rfl (rn_load rfl (Ld.sl1 hpk2 (by kernel_rfl) (iv_some hpk3))) ?_
        refine WR_val rfl (rn_assign) ?_
        refine WR_nil ?_
        refine loopN ⟨pk, ⟨rfl, rfl, rfl, rfl, rfl, rfl⟩, by rw [List.getD_eq_getElem?_getD, hpk3]; rfl, rfl⟩
      ·
        refine W_skip ?_
        refine loopN ⟨0, ⟨rfl, rfl, rfl, rfl, rfl, rfl⟩, by rw [List.getD_eq_getElem?_getD, List.getElem?_eq_none (by omega)]; rfl, rfl⟩
    ·
      rintro pk f2 wz ⟨hpkv, rfl⟩
      have hobt := opI_at (D := D) (k := k) (by omega)
      obtain ⟨i, hik, hiv, hil⟩ := hobt
      have hobt := hsl.some (by omega)
      obtain ⟨gp, op, rfl, hgp⟩ := hobt
      have hfr : ver (setAll D (X.take k)) i = ver D i := by rw [← hX, setXs_fresh hik]
      have hv := ver_ok h.ok hil
      have hXk : X[k]? = some (i, leftS (ver D i) pk) := by rw [← hX, hpkv]; exact setXs_at hik
      have hsn := setAll_snoc D X hXk
      have hl128 : (leftS (ver D i) pk).length = 128 := leftS_ok hv.2.1 hv.1 _
      have hpgp := hpn gp op rfl
      have hpg1 : gp ≠ g := fun e => hpgp (by simp [e])
      have hpg2 : gp ≠ pv := fun e => hpgp (by simp [e])
      have hobt := hM.vs.2 i _ (ver_at (by omega))
      obtain ⟨q, cq, hvi, hvs, hGq⟩ := hobt
      rw [hfr] at hvi hvs
      have hvp := List.length_pos_iff.2 hv.1
      have hobt := hvs.some (by omega)
      obtain ⟨gs, os, rfl, hgs⟩ := hobt
      have hq2 := hM.ne.2 gs (hGq gs os rfl)
      have hq3 := hM.vs.1
      have q1 := hK.k.size
      have q2 := hr.lt
      have q3 := hown.lt
      have q4 := hown.len
      have hobt : ∃ S, leftS (ver D i) pk = S := ⟨_, rfl⟩
      obtain ⟨S, hS⟩ := hobt
      have hLf := fun w' (h' : SlAt w' (some ⟨gs, os, none⟩) (ver D i).length 128 (bv (ver D i).flatten)) => rleft47 (c := cq) h' hv.1 hv.2.1 hv.2.2 pk
      rw [hS] at hsn hl128 hLf
      dsimp only at hsn
      have hS2 : (bv S).length = 128 := by rw [bv_length]; exact hl128
      refine W_draw' [pv] (by kernel_rfl) ?_
      intro w901 hb901 hS901
      replace hK := hK.new hb901
      replace hM := hM.new hb901
      replace hr := hr.new hb901
      replace hown := hown.new hb901
      replace hsl := hsl.new hb901
      replace hvs := hvs.new hb901
      have hK_d901 := hK
      have hM_d901 := hM
      have hr_d901 := hr
      have hown_d901 := hown
      have hsl_d901 := hsl
      have hvs_d901 := hvs
      refine WA_take 0 (by kernel_rfl) rfl (fun _ _ => rn_move) ?_
      refine WA_take 1 (by kernel_rfl) rfl (fun _ _ => rn_nilCheckP rfl) ?_
      refine WA_take 2 (by kernel_rfl) rfl (fun _ _ => rn_fieldAddr (off := 0) (by kernel_rfl) rfl) ?_
      refine WA_take 3 (by kernel_rfl) rfl (fun w' hS' => rn_load rfl (Ld.row1 (hr_d901.kpd hS' (by first | (simp; done) | (simp; omega) | (simp [*]; done) | exact notLL (Or.inl (by omega)) | exact notLL (Or.inr (by simp)) | exact fun g hm => Nat.le_trans (by omega) (inLL hm).1 | (intro b o e; cases e; exact notLL (Or.inl (by omega))))) (by kernel_rfl) rfl)) ?_
      refine WA_take 4 (by kernel_rfl) rfl (fun _ _ => rn_move) ?_
      refine WA_take 5 (by kernel_rfl) rfl (fun _ _ => rn_move) ?_
      refine WA_take 6 (by kernel_rfl) rfl (fun _ _ => rn_indexSl1 (e := 3) (by kernel_rfl) rfl rfl (k) (by omega) (by omega)) ?_
      refine WA_take 7 (by kernel_rfl) rfl (fun w' hS' => rn_load rfl (Ld.sl1 (hsl_d901.kpd hS' (by first | (simp; done) | (simp; omega) | (simp [*]; done) | exact notLL (Or.inl (by omega)) | exact notLL (Or.inr (by simp)) | exact fun g hm => Nat.le_trans (by omega) (inLL hm).1 | (intro b o e; cases e; exact notLL (Or.inl (by omega))))) (by kernel_rfl) hiv)) ?_
      refine WA_take 8 (by kernel_rfl) rfl (fun _ _ => rn_move) ?_
      refine WA_take 9 (by kernel_rfl) rfl (fun _ _ => rn_nilCheckP rfl) ?_
      refine WA_take 10 (by kernel_rfl) rfl (fun _ _ => rn_fieldAddr (off := 0) (by kernel_rfl) rfl) ?_
      refine WA_take 11 (by kernel_rfl) rfl (fun w' hS' => rn_load rfl (Ld.row1 (hr_d901.kpd hS' (by first | (simp; done) | (simp; omega) | (simp [*]; done) | exact notLL (Or.inl (by omega)) | exact notLL (Or.inr (by simp)) | exact fun g hm => Nat.le_trans (by omega) (inLL hm).1 | (intro b o e; cases e; exact notLL (Or.inl (by omega))))) (by kernel_rfl) rfl)) ?_
      refine WA_take 12 (by kernel_rfl) rfl (fun _ _ => rn_move) ?_
      refine WA_take 13 (by kernel_rfl) rfl (fun _ _ => rn_move) ?_
      refine WA_take 14 (by kernel_rfl) rfl (fun _ _ => rn_indexSl1 (e := 3) (by kernel_rfl) rfl rfl (k) (by omega) (by omega)) ?_
      refine WA_take 15 (by kernel_rfl) rfl (fun w' hS' => rn_load rfl (Ld.sl1 (hsl_d901.kpd hS' (by first | (simp; done) | (simp; omega) | (simp [*]; done) | exact notLL (Or.inl (by omega)) | exact notLL (Or.inr (by simp)) | exact fun g hm => Nat.le_trans (by omega) (inLL hm).1 | (intro b o e; cases e; exact notLL (Or.inl (by omega))))) (by kernel_rfl) hiv)) ?_
      refine WA_take 16 (by kernel_rfl) rfl (fun _ _ => rn_indexSl1 (e := 52) (by kernel_rfl) rfl rfl (i) (by omega) (by omega)) ?_
      refine WA_take 18 (by kernel_rfl) rfl (fun _ _ => rn_move) ?_
      refine WA_one 17 (by kernel_rfl) ?_
      refine WO_val rfl rfl (rn_load rfl (Ld.sl1 hown.sl (by kernel_rfl) hvi)) hS901 ?_
      refine WA_one 19 (by kernel_rfl) ?_
      refine WO_ent rfl rfl (rn_call (by kernel_rfl) rfl) (hLf w901 hvs) ?_
      rintro _ w42 ⟨rfl, hb42⟩
      have hS903 := hS901.add0 hb42
      refine ⟨hS903, ?_⟩
      replace hK := hK.new hb42
      replace hM := hM.new hb42
      replace hr := hr.new hb42
      replace hown := hown.new hb42
      replace hsl := hsl.new hb42
      replace hvs := hvs.new hb42
      refine WA_one 20 (by kernel_rfl) ?_
      have q7 := hK.k.size
      refine WO_mk rfl rfl (mk_one (e := 34) (.agg (bv S).toArray) (bv S) (List.replicate 128 (Value.int .u8 0)) 128 (by kernel_rfl) (by kernel_rfl) rfl rfl (by first | rfl | (simp; done) | (simp [bv_length, *]; done)) ⟨by decide, by decide⟩ (fun g43 w43 hg43 hr43 hb43 => ?_))
      have hS904 := hS903.add0 hb43
      refine ⟨hS904, ?_⟩
      have ge_hS903_g43 := Nat.le_trans hS903.size hg43
      have lt_g_g43 : g < g43 := Nat.lt_of_lt_of_le hr.lt hg43
      have lt_pv_g43 : pv < g43 := Nat.lt_of_lt_of_le hown.lt hg43
      replace hK := hK.new hb43
      replace hM := hM.new hb43
      replace hr := hr.new hb43
      replace hown := hown.new hb43
      replace hsl := hsl.new hb43
      replace hvs := hvs.new hb43
      refine WA_take 21 (by kernel_rfl) rfl (fun _ _ => rn_indexSl1 (e := 52) (by kernel_rfl) rfl rfl (i) (by omega) (by omega)) ?_
      refine WA_one 22 (by kernel_rfl) ?_
      have hs43 := hr43.slA (m := 1) (sz := 128) hS2 (by omega)
      have hM6 := hM
      have q6 := hr43.lt
      refine WO_sk rfl rfl (sk_storeO ([.slice (some ⟨g43, 0, none⟩) 1 1]) (i) hown rfl rfl (by kernel_rfl) (by first | (simp only [iv_length, List.length_cons, List.length_nil]; omega) | omega | (simp; omega)) (by simp [Value.oneCell']) (fun w906 hown ho906 => ?_))
      have hS905 := hS904.add1 ho906 (by first | (left; omega) | (right; simp; done) | (right; simp; omega))
      refine ⟨hS905, ?_⟩
      replace hK := hK.only ho906 (by simp)
      replace hr := hr.only ho906 (by omega)
      replace hsl := hsl.only ho906 (by omega)
      replace hvs := hvs.only ho906 (by omega)
      replace hr43 := hr43.only ho906 (Nat.ne_of_gt lt_pv_g43)
      refine WA_done (by kernel_rfl) ?_
      refine blockN ?_
      refine thenN ?_
      refine W_region ?_
      refine WR_val rfl (rn_move) ?_
      refine WR_val rfl (rn_add rfl rfl (Coup.w64 (by omega))) ?_
      refine WR_val rfl (rn_assign) ?_
      refine WR_nil ?_
      rw [splice_one _ _ _ (by omega), ← hVl] at hown
      have hx := rf_set (v := [S]) (c := 1) hM6 (Kp.of_only ho906) (by omega) hown ((show SlAt _ _ _ 128 (bv [S].flatten) by simpa using hs43).only ho906 (by omega)) ⟨by omega, by omega⟩ (by have := (Kp.of_only ho906).size; omega) (by simp) (fun x hx => by rw [List.mem_singleton.1 hx]; exact hl128) (by simp)
      rw [← hsn] at hx
      refine loopN ⟨k + 1, by omega, ⟨by go_num, rfl, rfl, rfl, rfl⟩, by omega, ⟨_, _, hx, fun b hb => ?_⟩, hsl, hK⟩
      rcases List.mem_cons.1 hb with rfl | hb
      · right; omega
      · exact hG' b hb
  ·
    have hkl : k = (opN D).length := by omega
    rw [hkl, List.take_of_length_le (by omega)] at hM
    refine W_exit ?_
    refine thenX ?_
    refine loopX ?_
    refine blockX ?_
    refine thenN ?_
    refine W_region ?_
    refine WR_val rfl (rn_move) ?_
    refine WR_val rfl (rn_move) ?_
    refine WR_val rfl (rn_nilCheckP rfl) ?_
    refine WR_val rfl (rn_fieldAddr (off := 1) (by kernel_rfl) rfl) ?_
    refine WR_sk rfl (sk_store1 rfl rfl rfl rfl hr (by kernel_rfl) (by first | (simp only [List.length_replicate]; omega) | (simp only [iv_length]; omega) | (simp only [bv_length, List.length_set]; omega) | simp) (fun w907 hr ho907 => ?_))
    replace hK := hK.only ho907 (by simp)
    have ho1 := ho907
    refine WR_val rfl (rn_nilCheckP rfl) ?_
    refine WR_val rfl (rn_fieldAddr (off := 2) (by kernel_rfl) rfl) ?_
    refine WR_sk rfl (sk_store1 rfl rfl rfl rfl hr (by kernel_rfl) (by first | (simp only [List.length_replicate]; omega) | (simp only [iv_length]; omega) | (simp only [bv_length, List.length_set]; omega) | simp) (fun w908 hr ho908 => ?_))
    replace hK := hK.only ho908 (by simp)
    refine WR_nil ?_
    refine ret_normal [] trivial ?_
    have ho3 := Only.trans ho1 ho908
    have ht := hM.turn ho3 (left' := -1) (dead' := false) (by rw [setAll_len]; exact hr) (by omega)
    exact ⟨⟨G', vs', ht, hG'⟩, hK.k⟩
end Go.Proofs.Ytpndhildmfmcgaa
