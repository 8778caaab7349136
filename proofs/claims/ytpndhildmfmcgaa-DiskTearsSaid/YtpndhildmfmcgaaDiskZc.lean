/- The law DiskTears, walked. -/
import Derived.Test.YtpndhildmfmcgaaDiskZb
namespace Go.Proofs.Ytpndhildmfmcgaa
open Go Go.RowKit Coup

theorem secs_of : ∀ (n : Nat) (l : List UInt8), l.length = n * 128 → ∃ L : List Sec, L.length = n ∧ secsOk L ∧ L.flatten = l
  | 0, l, h => ⟨[], rfl, (fun s hs => by cases hs), by have := List.eq_nil_of_length_eq_zero (l := l) (by omega); rw [this]; rfl⟩
  | n + 1, l, h => by
    obtain ⟨L, h1, h2, h3⟩ := secs_of n (l.drop 128) (by rw [List.length_drop]; omega)
    refine ⟨l.take 128 :: L, by rw [List.length_cons, h1], fun s hs => ?_, by rw [List.flatten_cons, h3, List.take_append_drop]⟩
    rcases List.mem_cons.1 hs with rfl | hs
    · rw [List.length_take]; omega
    · exact h2 s hs
/-- A disk of one sector that has these versions. -/
def oneD (v : List Sec) : Dk := ⟨[v], -1, false⟩
theorem one_ver (v : List Sec) : ver (oneD v) 0 = v := rfl
theorem one_writeE (v : List Sec) : writeE (oneD v) 0 = 0 := rfl
theorem one_writeA (v : List Sec) (s : Sec) : writeA (oneD v) 0 s = oneD (v ++ [s]) := rfl
theorem one_flush {v : List Sec} : stepOk (oneD v) = true ∧ flushD (oneD v) = oneD [lastS v] := ⟨rfl, rfl⟩
theorem one_crash {v : List Sec} (hv : v ≠ []) (pick : Int) : crashD (oneD v) [pick] = oneD [leftS v pick] := by
  have hp := List.length_pos_iff.2 hv
  have ho : openB (oneD v) 0 = decide (1 < v.length) := rfl
  by_cases h : 1 < v.length
  · have e : opN (oneD v) = [0] := by
      show (List.range 1).filter (openB (oneD v)) = [0]
      rw [show List.range 1 = [0] from rfl, List.filter_cons_of_pos (by rw [ho]; exact decide_eq_true h)]; rfl
    rw [crashD, setXs, e]; rfl
  · obtain ⟨s, rfl⟩ := List.length_eq_one_iff.1 (show v.length = 1 by omega)
    have e : opN (oneD [s]) = [] := rfl
    rw [crashD, setXs, e]
    have hl : leftS [s] pick = s := by
      have h0 : pick % ((2 * [s].length - 1 : Nat) : Int) = 0 := by show pick % 1 = 0; omega
      rw [leftS, h0]; rfl
    rw [hl]; rfl
theorem one_short {v : List Sec} {k : Nat} (h : v.length ≤ k) : shortD (oneD v) k := short_one h
theorem own_cap {w : World} {b e sz m n c : Nat} {p : Option Addr} {xs : List Value} (h : ownsAt w b e sz (.slice p n c) m xs) : n ≤ c := by
  rcases h.2 with ⟨e1, _⟩ | ⟨g, o, cap, cur, e1, _, _, h2, _⟩
  · cases e1; exact Nat.le_refl _
  · cases e1; exact h2
theorem dk_cap {w : World} {G : List Nat} {D : Dk} {sv : Nat → Value} (h : DkO w G D sv) : ∀ i p n c, openB D i = true → sv i = .slice p n c → n ≤ c := fun i p n c ho e => by
  have := (h.own i ho).1
  rw [e] at this
  exact own_cap this
theorem leftS_alike {v : List Sec} {a b : Int} (h : a % ((2 * v.length - 1 : Nat) : Int) = b % ((2 * v.length - 1 : Nat) : Int)) : leftS v a = leftS v b := by rw [leftS, leftS, h]
set_option maxRecDepth 8000 in
set_option maxHeartbeats 2000000 in
theorem diskTearsC (F0 : Sec) (p : Option Addr) (n cp : Nat) (F : List UInt8) (pick : Int) (w : World) (hF0 : F0.length = 128) (hs0 : SlAt w p n 128 (bv F)) :
    Calls Try.prog 6 [.agg (bv F0).toArray, .slice p n cp, .int .i64 pick].toArray w (Ret fun v w' => v = .bool true ∧ Below w.heap.size w w') := by
  have hB := Below.refl w.heap.size w
  have hml : maxLen = 9223372036854775807 := by decide
  have hmax := hs0.max
  have hF0l : (bv F0).length = 128 := by rw [bv_length]; exact hF0
  obtain ⟨Z, hzz, hzb, hzl⟩ := zeroSQ
  obtain ⟨Ls, hL1, hL2, rfl⟩ := secs_of n F (by have := hs0.len; rwa [bv_length] at this)
  have hVok : ∀ i, secsOk (F0 :: Ls.take i) := fun i s hs => by
    rcases List.mem_cons.1 hs with rfl | hs
    · exact hF0
    · exact hL2 s (List.mem_of_mem_take hs)
  refine calls_W (fn := Try.f6) (rs := [.tmp 6]) (n := 150) Try.func6 rfl rfl Try.ntmps6 (by kernel_rfl) rfl ?_
  refine W_seq ?_
  refine W_region ?_
  refine WR_mk rfl (mk_box ((bv F0)) rfl (fun g3 w3 hg3 hr3 hb3 => ?_))
  have ge_hB_g3 := Nat.le_trans hB.size hg3
  replace hB := hB.acc hb3
  refine WR_val rfl (rn_assign) ?_
  refine WR_nil ?_
  refine thenN ?_
  refine W_seq ?_
  refine W_seq ?_
  refine W_region ?_
  refine WR_val rfl (rn_move) ?_
  refine WR_val rfl (rn_lenSl (e := 34) (sz := 128) (by kernel_rfl) rfl rfl) ?_
  refine WR_val rfl (rn_gtr rfl rfl) ?_
  refine WR_nil ?_
  refine thenN ?_
  refine W_ifp rfl (fun h12 => ?_) (fun h12 => ?_)
  ·
    refine W_seq ?_
    refine W_region ?_
    refine WR_ent rfl (rn_call (by kernel_rfl) rfl) (known10 w3) ?_
    rintro _ w23 ⟨rfl, hb23⟩
    replace hr3 := hr3.new hb23
    replace hB := hB.acc hb23
    refine WR_val rfl (rn_assign) ?_
    refine WR_nil ?_
    refine thenN ?_
    refine W_ret ?_
    refine thenR ?_
    refine ret_ret [_] ⟨rfl, trivial⟩ ?_
    exact ⟨rfl, hB⟩
  ·
    have l3 := hr3.lt
    have lB := hB.size
    have hob : ∃ lo, w3.heap.size = lo := ⟨_, rfl⟩
    obtain ⟨lo, hlo⟩ := hob
    refine W_skip ?_
    refine thenN ?_
    refine W_seq ?_
    refine W_region ?_
    refine WR_ent rfl (rn_call (by kernel_rfl) rfl) (begin12d 1 w3 (by omega) (by omega)) ?_
    rintro _ w25 ⟨g, h0, B, rfl, hX, hBlo, hb25⟩
    replace hr3 := hr3.new hb25
    replace hB := hB.acc hb25
    have hD : Two (DZ g (oneD [zeroS])) None lo [] w25 := Two.one hX (fun b hb => ⟨by rw [← hlo]; exact hBlo b hb, by simp⟩) (by have := hb25.size; omega) (by simp)
    refine WR_val rfl (rn_move) ?_
    refine WR_val rfl (rn_extract rfl rfl) ?_
    refine WR_val rfl (rn_extract rfl rfl) ?_
    refine WR_val rfl (rn_extract rfl rfl) ?_
    refine WR_val rfl (rn_assign) ?_
    refine WR_val rfl (rn_assign) ?_
    refine WR_val rfl (rn_assign) ?_
    refine WR_nil ?_
    refine thenN ?_
    refine W_seq ?_
    refine W_seq ?_
    refine W_region ?_
    refine WR_val rfl (rn_move) ?_
    refine WR_val rfl (rn_not rfl) ?_
    refine WR_val rfl (rn_move) ?_
    refine WR_fnb 31 rfl (rfl) ?_
    refine WR_yes rfl ?_
    refine WR_val rfl (rn_move) ?_
    refine WR_yes rfl ?_
    refine WR_val rfl (rn_load rfl (Ld.rowA (k := 128) hr3 (by kernel_rfl) (by kernel_rfl) (by first | (simp; done) | (simp [bv_length, *]; done) | assumption))) ?_
    refine WR_yes rfl ?_
    have hw := tWrite hD 0 F0 hF0 (one_short (by simp))
    rw [one_writeE, one_writeA] at hw
    refine WR_ent rfl (rn_call (by kernel_rfl) rfl) (hw) ?_
    rintro _ w34 ⟨rfl, hD, hb34⟩
    replace hr3 := hr3.kpd hb34.kp (by first | (refine notLL ?_; left; omega) | (refine notLL ?_; right; simp; done) | (intro b o e; cases e; first | (refine notLL ?_; left; omega) | (refine notLL ?_; right; simp; done)) | (intro b hb; refine notLL ?_; left; omega))
    replace hB := belLL hB hb34 (by omega)
    refine WR_yes rfl ?_
    refine WR_val rfl (rn_neq rfl rfl) ?_
    refine WR_val rfl (rn_pick_f rfl) ?_
    refine WR_val rfl (rn_move) ?_
    refine WR_fp 37 rfl ((by omega)) ?_
    refine WR_yes rfl ?_
    refine WR_val rfl (rn_move) ?_
    refine WR_yes rfl ?_
    have hfl := tFlush hD
    rw [one_flush.1, one_flush.2, if_pos rfl] at hfl
    refine WR_ent rfl (rn_call (by kernel_rfl) rfl) (hfl) ?_
    rintro _ w39 ⟨rfl, hD, hb39⟩
    replace hr3 := hr3.kpd hb39.kp (by first | (refine notLL ?_; left; omega) | (refine notLL ?_; right; simp; done) | (intro b o e; cases e; first | (refine notLL ?_; left; omega) | (refine notLL ?_; right; simp; done)) | (intro b hb; refine notLL ?_; left; omega))
    replace hB := belLL hB hb39 (by omega)
    refine WR_yes rfl ?_
    refine WR_val rfl (rn_neq rfl rfl) ?_
    refine WR_val rfl (rn_pick_f rfl) ?_
    refine WR_nil ?_
    refine thenN ?_
    refine W_fp rfl ((by omega)) ?_
    refine W_skip ?_
    refine thenN ?_
    refine W_seq ?_
    refine W_region ?_
    refine WR_val rfl (rn_load rfl (Ld.rowA (k := 128) hr3 (by kernel_rfl) (by kernel_rfl) (by first | (simp; done) | (simp [bv_length, *]; done) | assumption))) ?_
    have hD0 : Two (DZ g (oneD [F0])) None lo [] w39 := hD
    refine WR_mk rfl (mk_one (e := 34) (.agg (bv F0).toArray) (bv F0) (List.replicate 128 (Value.int .u8 0)) 128 (by kernel_rfl) (by kernel_rfl) rfl rfl (by first | rfl | (simp; done) | (simp [bv_length, *]; done)) ⟨by decide, by decide⟩ (fun g43 w43 hg43 hr43 hb43 => ?_))
    have ge_hB_g43 := Nat.le_trans hB.size hg43
    have lt_g3_g43 : g3 < g43 := Nat.lt_of_lt_of_le hr3.lt hg43
    replace hr3 := hr3.new hb43
    replace hB := hB.acc hb43
    refine WR_val rfl (rn_assign) ?_
    refine WR_nil ?_
    refine thenN ?_
    refine W_seq ?_
    refine W_seq ?_
    refine W_region ?_
    refine WR_val rfl (rn_assign) ?_
    refine WR_nil ?_
    refine thenN ?_
    refine W_block ?_
    have hD : Two (DZ g (oneD (F0 :: Ls.take 0))) (OwnZ 34 128 (.slice (some ⟨g43, 0, none⟩) 1 1) (0 + 1) (bv (F0 :: Ls.take 0).flatten)) lo [] w43 := by
      refine Two.addOwn hD0 hb43 ?_
      have := hr43.owns (base := w39.heap.size) (m := 1) (sz := 128) hg43 (by omega) (by omega)
      simpa using this
    refine W_loop (α := Nat × Value) (0, .slice (some ⟨g43, 0, none⟩) 1 1) (fun k => [(11, .int .i64 (k.1 : Nat)), (10, k.2), (1, .slice p n cp), (2, .int .i64 pick), (7, .pointer (some ⟨g, 0, none⟩))])
      (fun k w' => k.1 ≤ n ∧ Two (DZ g (oneD (F0 :: Ls.take k.1))) (OwnZ 34 128 k.2 (k.1 + 1) (bv (F0 :: Ls.take k.1).flatten)) lo [] w' ∧ Below w.heap.size w w') (fun k => n - k.1)
      ⟨rfl, rfl, rfl, rfl, rfl, rfl⟩ ⟨Nat.zero_le _, hD, hB⟩ ?_
    clear hD hD0 hB hr3 hX
    rintro ⟨i, u⟩ f wr ⟨hi, hD, hB⟩
    dsimp only at hi hD ⊢
    refine W_seq ?_
    refine W_seq ?_
    refine W_region ?_
    refine WR_val rfl (rn_move) ?_
    refine WR_val rfl (rn_move) ?_
    refine WR_val rfl (rn_lenSl (e := 34) (sz := 128) (by kernel_rfl) rfl rfl) ?_
    refine WR_val rfl (rn_lss rfl rfl) ?_
    refine WR_nil ?_
    refine thenN ?_
    refine W_ifp rfl (fun hlt => ?_) (fun hlt => ?_)
    ·
      refine W_skip ?_
      refine thenN ?_
      refine W_seq ?_
      refine W_block ?_
      refine W_seq ?_
      refine W_seq ?_
      have hs1 := hs0.below hB (Nat.le_refl _)
      have hobt := hs0.some (by omega)
      obtain ⟨gp, op, rfl, hgp⟩ := hobt
      have hobt : ∃ S, Ls[i]? = some S := ⟨_, List.getElem?_eq_getElem (by omega)⟩
      obtain ⟨S, hS⟩ := hobt
      have hSl := hL2 S (List.mem_of_getElem? hS)
      have hS2 : (bv S).length = 128 := by rw [bv_length]; exact hSl
      have hsn : F0 :: Ls.take (i + 1) = (F0 :: Ls.take i) ++ [S] := by rw [List.take_add_one, hS]; rfl
      have hw := tWrite hD 0 S hSl (one_short (by simp; omega))
      rw [one_writeE, one_writeA, ← hsn] at hw
      refine W_region ?_
      refine WR_val rfl (rn_move) ?_
      refine WR_val rfl (rn_move) ?_
      refine WR_val rfl (rn_move) ?_
      refine WR_val rfl (rn_indexSl (e := 34) (sz := 128) (by kernel_rfl) rfl rfl (i) (by omega) (by omega)) ?_
      refine WR_val rfl (rn_load rfl (ld_sec (hs0.below hB (Nat.le_refl _)) hL2 hS)) ?_
      refine WR_ent rfl (rn_call (by kernel_rfl) rfl) (hw) ?_
      rintro _ w55 ⟨rfl, hD, hb55⟩
      replace hB := belLL hB hb55 (by omega)
      refine WR_val rfl (rn_neq rfl rfl) ?_
      refine WR_nil ?_
      refine thenN ?_
      refine W_fp rfl ((by omega)) ?_
      refine W_skip ?_
      refine thenN ?_
      refine W_region ?_
      refine WR_val rfl (rn_move) ?_
      refine WR_val rfl (rn_move) ?_
      refine WR_val rfl (rn_move) ?_
      refine WR_val rfl (rn_indexSl (e := 34) (sz := 128) (by kernel_rfl) rfl rfl (i) (by omega) (by omega)) ?_
      refine WR_val rfl (rn_load rfl (ld_sec (hs0.below hB (Nat.le_refl _)) hL2 hS)) ?_
      refine WR_mk rfl (mk_one (e := 34) (.agg (bv S).toArray) (bv S) (List.replicate 128 (Value.int .u8 0)) 128 (by kernel_rfl) (by kernel_rfl) rfl rfl (by first | rfl | (simp; done) | (simp [bv_length, *]; done)) ⟨by decide, by decide⟩ (fun g62 w62 hg62 hr62 hb62 => ?_))
      have ge_hB_g62 := Nat.le_trans hB.size hg62
      replace hD := hD.newc hb62 hg62 hr62.lt
      replace hB := hB.acc hb62
      have hs62 := hr62.slA (m := 1) (sz := 128) hS2 (by omega)
      refine WR_mk rfl (mk_append (e := 34) (sz := 128) (bytes := 128) (z := .agg (List.replicate 128 (Value.int .u8 0)).toArray) (by kernel_rfl) rfl (by kernel_rfl) rfl (by decide) rfl hD.owns rfl hs62 (bv_one _) (by unfold maxLen; omega) (by omega) (fun hm0 => Nat.zero_le _) (fun v63 w63 hv63 hgr63 hfr63 => ?_))
      have hll63 := Two.grow hD hv63 hgr63 hfr63
      replace hD := hll63.1
      replace hr62 := hr62.kpd hll63.2.kp (by first | (refine notLL ?_; left; omega) | (refine notLL ?_; right; simp; done) | (intro b o e; cases e; first | (refine notLL ?_; left; omega) | (refine notLL ?_; right; simp; done)) | (intro b hb; refine notLL ?_; left; omega))
      replace hB := belLL hB hll63.2 (by omega)
      refine WR_val rfl (rn_assign) ?_
      refine WR_nil ?_
      refine blockN ?_
      refine thenN ?_
      refine W_region ?_
      refine WR_val rfl (rn_move) ?_
      refine WR_val rfl (rn_add rfl rfl (Coup.w64 (by omega))) ?_
      refine WR_val rfl (rn_assign) ?_
      refine WR_nil ?_
      have hfl2 : bv (F0 :: Ls.take i).flatten ++ bv S = bv (F0 :: Ls.take (i + 1)).flatten := by rw [hsn, ← bv_append]; simp
      rw [hfl2] at hD
      refine loopN ⟨(i + 1, v63), by omega, ⟨by go_num, rfl, rfl, rfl, rfl, rfl⟩, by omega, hD.weak (fun b hb => by cases hb), hB⟩
    ·
      have hin : i = n := by omega
      rw [hin, List.take_of_length_le (by omega)] at hD
      have hob : ∃ V, F0 :: Ls = V := ⟨_, rfl⟩
      obtain ⟨V, hV⟩ := hob
      have hVs : secsOk V := by have := hVok n; rwa [List.take_of_length_le (by omega), hV] at this
      have hVl : V.length = n + 1 := by rw [← hV, List.length_cons, hL1]
      have hVne : V ≠ [] := by rw [← hV]; simp
      rw [hV] at hD
      have hu := hD.owns
      have hobt := hu.form' (by omega)
      obtain ⟨gu, ou, cu, rfl, hgu0, hgu, hcu⟩ := hobt
      have hall := hu.sl
      have hDlo := hD.lo
      have hob := hD.ex
      obtain ⟨B1, C1, hX, _, _⟩ := hob
      refine W_exit ?_
      refine thenX ?_
      refine loopX ?_
      refine blockX ?_
      refine thenN ?_
      refine W_seq ?_
      refine W_seq ?_
      refine W_region ?_
      refine WR_val rfl (rn_assign) ?_
      refine WR_nil ?_
      refine thenN ?_
      refine W_block ?_
      refine W_loop (α := Nat) 0 (fun k => [(12, .int .i64 (k : Nat)), (10, .slice (some ⟨gu, ou, none⟩) (n + 1) cu), (1, .slice p n cp), (2, .int .i64 pick), (7, .pointer (some ⟨g, 0, none⟩))])
        (fun k w' => k ≤ 2 * n + 1 ∧ DkX w' g B1 (oneD V) ∧ SlAt w' (some ⟨gu, ou, none⟩) (n + 1) 128 (bv V.flatten) ∧ Below w.heap.size w w') (fun k => 2 * n + 1 - k)
        ⟨rfl, rfl, rfl, rfl, rfl, rfl⟩ ⟨Nat.zero_le _, hX, hall, hB⟩ ?_
      clear hD hB hX hall hu hgu0 hgu hcu
      rintro k f wy ⟨hk, hX, hall, hB⟩
      have hB1 := Below.refl wy.heap.size wy
      have qB := hB.size
      have hob : ∃ pl m G ol cl st fu sv, B1 = [g, pl, m] ++ G ∧ DkM wy g pl m G (oneD V) ol cl st fu sv ∧ DkO wy G (oneD V) sv := hX
      obtain ⟨pl, m, G, ol, cl, st, fu, sv, hBe, hM0, hO⟩ := hob
      have hcap := dk_cap hO
      have hG0 := hM0.inG
      refine W_seq ?_
      refine W_seq ?_
      refine W_region ?_
      refine WR_val rfl (rn_move) ?_
      refine WR_val rfl (rn_move) ?_
      refine WR_val rfl (rn_lenSl (e := 34) (sz := 128) (by kernel_rfl) rfl rfl) ?_
      refine WR_val rfl (rn_mul rfl rfl (Coup.w64 (by omega))) ?_
      refine WR_val rfl (rn_add rfl rfl (Coup.w64 (by omega))) ?_
      refine WR_val rfl (rn_lss rfl rfl) ?_
      refine WR_nil ?_
      refine thenN ?_
      refine W_ifp rfl (fun hlt => ?_) (fun hlt => ?_)
      ·
        refine W_skip ?_
        refine thenN ?_
        refine W_seq ?_
        refine W_block ?_
        refine W_seq ?_
        refine W_region ?_
        refine WR_val rfl (rn_move) ?_
        refine WR_ent rfl (rn_call (by kernel_rfl) rfl) (copy21 hM0 hcap) ?_
        rintro _ w73 ⟨g', pl', m', ol', cl', rfl, hM, hl1, hl2, hl3, hb73⟩
        replace hB := hB.acc hb73
        replace hB1 := hB1.acc hb73
        refine WR_val rfl (rn_assign) ?_
        refine WR_nil ?_
        refine thenN ?_
        refine W_seq ?_
        refine W_seq ?_
        refine W_region ?_
        refine WR_val rfl (rn_move) ?_
        refine WR_val rfl (rn_move) ?_
        have q1 := hM.row.lt
        have q2 := hM.own.lt
        have q3 := hM.map.lt
        refine WR_mk rfl (mk_one (e := 3) (.int .i64 (k : Nat)) ([.int .i64 (k : Nat)]) ([Value.int .i64 0]) 1 (by kernel_rfl) (by kernel_rfl) rfl rfl rfl ⟨by decide, by decide⟩ (fun g76 w76 hg76 hr76 hb76 => ?_))
        have ge_hB_g76 := Nat.le_trans hB.size hg76
        have ge_hB1_g76 := Nat.le_trans hB1.size hg76
        replace hM := hM.new hb76
        replace hB := hB.acc hb76
        replace hB1 := hB1.acc hb76
        have hs76 : SlAt w76 (some ⟨g76, 0, none⟩) 1 1 (iv [(k : Int)]) := hr76.slA (m := 1) (sz := 1) rfl (by omega)
        have hcr := crash20 (cp := 1) hM (some ⟨g76, 0, none⟩) 1 [(k : Int)] hs76 (fun _ b o e hm => by cases e; simp at hm; omega)
        rw [one_crash hVne] at hcr
        refine WR_ent rfl (rn_call (by kernel_rfl) rfl) (hcr) ?_
        rintro _ w77 ⟨rfl, hM2, hb77⟩
        replace hB := hB.kpd hb77 (by first | (simp; done) | (simp; omega))
        replace hB1 := hB1.kpd hb77 (by first | (simp; done) | (simp; omega))
        refine WR_val rfl (rn_neq rfl rfl) ?_
        refine WR_nil ?_
        refine thenN ?_
        refine W_fp rfl ((by omega)) ?_
        refine W_skip ?_
        refine thenN ?_
        refine W_seq ?_
        refine W_region ?_
        refine WR_val rfl (rn_move) ?_
        have hrd := read23 hM2 0
        have hin1 : inD (oneD [leftS V k]) 0 = true := rfl
        rw [hin1, if_pos rfl, if_pos rfl] at hrd
        have hmod : leftS V (k : Int) = leftAt V k := by rw [leftS, Int.emod_eq_of_lt (by omega) (by omega), Int.toNat_natCast]
        have hre : readD (oneD [leftS V (k : Int)]) (0 : Int).toNat = leftAt V k := hmod
        have hSl := leftAt_ok hVs k
        have hobt : ∃ A, V[(k + 1) / 2]? = some A := ⟨_, List.getElem?_eq_getElem (by omega)⟩
        obtain ⟨A, hA⟩ := hobt
        have hAg : V.getD ((k + 1) / 2) zeroS = A := by rw [List.getD_eq_getElem?_getD, hA]; rfl
        have hAl : (bv A).length = 128 := by rw [bv_length]; exact hVs A (List.mem_of_getElem? hA)
        have hobt : ∃ S, leftAt V k = S := ⟨_, rfl⟩
        obtain ⟨S, hS⟩ := hobt
        rw [hS] at hre hSl
        rw [hre] at hrd
        have hS2 : (bv S).length = 128 := by rw [bv_length]; exact hSl
        refine WR_ent rfl (rn_call (by kernel_rfl) rfl) (hrd) ?_
        rintro _ w81 ⟨rfl, hb81⟩
        replace hB := hB.acc hb81
        replace hB1 := hB1.acc hb81
        refine WR_val rfl (rn_move) ?_
        refine WR_val rfl (rn_extract rfl rfl) ?_
        refine WR_val rfl (rn_extract rfl rfl) ?_
        refine WR_mk rfl (mk_alloc (List.replicate 128 (Value.int .u8 0)) (by kernel_rfl) (fun g14 w14 hg14 hr14 hb14 => ?_))
        have ge_hB_g14 := Nat.le_trans hB.size hg14
        have ge_hB1_g14 := Nat.le_trans hB1.size hg14
        replace hB := hB.acc hb14
        replace hB1 := hB1.acc hb14
        rw [hzb] at hr14
        refine WR_sk rfl (sk_storeA 128 (bv S) rfl rfl hr14 (by kernel_rfl) (by first | assumption | (simp; done) | (simp [bv_length, *]; done)) (by first | assumption | (simp; done) | (simp [bv_length, *]; done) | rfl) (by first | exact bv_one _ | assumption | (simp [Value.oneCell']; done)) (fun w901 hr14 ho901 => ?_))
        replace hB := ho901.below hB ge_hB_g14
        replace hB1 := ho901.below hB1 ge_hB1_g14
        refine WR_val rfl (rn_assign) ?_
        refine WR_nil ?_
        refine thenN ?_
        refine W_seq ?_
        refine W_region ?_
        refine WR_val rfl (rn_move) ?_
        refine WR_val rfl (rn_move) ?_
        refine WR_val rfl (rn_add rfl rfl (Coup.w64 (by omega))) ?_
        refine WR_val rfl (rn_quo0 rfl rfl (by omega) (by omega)) ?_
        refine WR_val rfl (rn_indexSl (e := 34) (sz := 128) (by kernel_rfl) rfl rfl ((k + 1) / 2) (by omega) (by omega)) ?_
        refine WR_val rfl (rn_load rfl (ld_sec (hall.below hB1 (Nat.le_refl _)) hVs hA)) ?_
        refine WR_mk rfl (mk_alloc (List.replicate 128 (Value.int .u8 0)) (by kernel_rfl) (fun g16 w16 hg16 hr16 hb16 => ?_))
        have ge_hB_g16 := Nat.le_trans hB.size hg16
        have ge_hB1_g16 := Nat.le_trans hB1.size hg16
        have lt_g14_g16 : g14 < g16 := Nat.lt_of_lt_of_le hr14.lt hg16
        replace hr14 := hr14.new hb16
        replace hB := hB.acc hb16
        replace hB1 := hB1.acc hb16
        rw [hzb] at hr16
        refine WR_sk rfl (sk_storeA 128 (bv A) rfl rfl hr16 (by kernel_rfl) (by first | assumption | (simp; done) | (simp [bv_length, *]; done)) (by first | assumption | (simp; done) | (simp [bv_length, *]; done) | rfl) (by first | exact bv_one _ | assumption | (simp [Value.oneCell']; done)) (fun w902 hr16 ho902 => ?_))
        replace hr14 := hr14.only ho902 (Nat.ne_of_lt lt_g14_g16)
        replace hB := ho902.below hB ge_hB_g16
        replace hB1 := ho902.below hB1 ge_hB1_g16
        refine WR_nil ?_
        refine thenN ?_
        refine W_seq ?_
        refine W_seq ?_
        refine W_region ?_
        refine WR_val rfl (rn_move) ?_
        refine WR_val rfl (rn_gtr rfl rfl) ?_
        refine WR_val rfl (rn_move) ?_
        refine WR_part 92 rfl (fun hk0 => ?_) (fun hk0 => ?_)
        ·
          refine WR_yes rfl ?_
          refine WR_val rfl (rn_move) ?_
          refine WR_yes rfl ?_
          refine WR_val rfl (rn_rem0 rfl rfl (by omega) (by omega)) ?_
          refine WR_yes rfl ?_
          refine WR_val rfl (rn_eql rfl rfl) ?_
          refine WR_val rfl (rn_pick_t rfl) ?_
          refine WR_nil ?_
          refine thenN ?_
          refine W_ifp rfl (fun hk2 => ?_) (fun hk2 => ?_)
          ·
            have hobt : ∃ A1, V[k / 2]? = some A1 := ⟨_, List.getElem?_eq_getElem (by omega)⟩
            obtain ⟨A1, hA1⟩ := hobt
            have hobt : ∃ A2, V[k / 2 - 1]? = some A2 := ⟨_, List.getElem?_eq_getElem (by omega)⟩
            obtain ⟨A2, hA2⟩ := hobt
            have hA1l := hVs A1 (List.mem_of_getElem? hA1)
            have hA2l := hVs A2 (List.mem_of_getElem? hA2)
            have hSe : tornS A1 A2 = S := by rw [← hS, leftAt, if_neg (by omega), if_neg (by omega), List.getD_eq_getElem?_getD, List.getD_eq_getElem?_getD, hA1, hA2]; rfl
            have hT := fun w' => torn24 A1 A2 w' hA1l hA2l
            rw [hSe] at hT
            refine W_draw' [g16] (by kernel_rfl) ?_
            intro w903 hb903 hS903
            replace hr14 := hr14.new hb903
            replace hr16 := hr16.new hb903
            replace hB := hB.acc hb903
            replace hB1 := hB1.acc hb903
            have hr14_d903 := hr14
            have hr16_d903 := hr16
            have hB_d903 := hB
            have hB1_d903 := hB1
            refine WA_take 0 (by kernel_rfl) rfl (fun _ _ => rn_move) ?_
            refine WA_take 1 (by kernel_rfl) rfl (fun _ _ => rn_move) ?_
            refine WA_take 2 (by kernel_rfl) rfl (fun _ _ => rn_quo0 rfl rfl (by omega) (by omega)) ?_
            refine WA_take 3 (by kernel_rfl) rfl (fun _ _ => rn_indexSl (e := 34) (sz := 128) (by kernel_rfl) rfl rfl (k / 2) (by omega) (by omega)) ?_
            refine WA_take 4 (by kernel_rfl) rfl (fun w' hS' => rn_load rfl (ld_sec (hall.below (hB1_d903.kpd hS' (by first | (simp; done) | (simp; omega) | (simp [*]; done) | exact notLL (Or.inl (by omega)) | exact notLL (Or.inr (by simp)) | exact fun g hm => Nat.le_trans (by omega) (inLL hm).1 | (intro b o e; cases e; exact notLL (Or.inl (by omega))))) (Nat.le_refl _)) hVs hA1)) ?_
            refine WA_take 5 (by kernel_rfl) rfl (fun _ _ => rn_move) ?_
            refine WA_take 6 (by kernel_rfl) rfl (fun _ _ => rn_move) ?_
            refine WA_take 7 (by kernel_rfl) rfl (fun _ _ => rn_quo0 rfl rfl (by omega) (by omega)) ?_
            refine WA_take 8 (by kernel_rfl) rfl (fun _ _ => rn_sub rfl rfl (show IntKind.i64.wrap ((k : Int) / 2 - 1) = ((k / 2 - 1 : Nat) : Int) by rw [w64 (by omega)]; omega)) ?_
            refine WA_take 9 (by kernel_rfl) rfl (fun _ _ => rn_indexSl (e := 34) (sz := 128) (by kernel_rfl) rfl rfl (k / 2 - 1) (by omega) (by omega)) ?_
            refine WA_take 10 (by kernel_rfl) rfl (fun w' hS' => rn_load rfl (ld_sec (hall.below (hB1_d903.kpd hS' (by first | (simp; done) | (simp; omega) | (simp [*]; done) | exact notLL (Or.inl (by omega)) | exact notLL (Or.inr (by simp)) | exact fun g hm => Nat.le_trans (by omega) (inLL hm).1 | (intro b o e; cases e; exact notLL (Or.inl (by omega))))) (Nat.le_refl _)) hVs hA2)) ?_
            refine WA_one 11 (by kernel_rfl) ?_
            refine WO_ent rfl rfl (rn_call (by kernel_rfl) rfl) (hT w903) ?_
            rintro _ w108 ⟨rfl, hb108⟩
            have hS904 := hS903.add0 hb108
            refine ⟨hS904, ?_⟩
            replace hr14 := hr14.new hb108
            replace hr16 := hr16.new hb108
            replace hB := hB.acc hb108
            replace hB1 := hB1.acc hb108
            refine WA_one 12 (by kernel_rfl) ?_
            refine WO_sk rfl rfl (sk_storeA 128 (bv S) rfl rfl hr16 (by kernel_rfl) (by first | assumption | (simp; done) | (simp [bv_length, *]; done)) (by first | assumption | (simp; done) | (simp [bv_length, *]; done) | rfl) (by first | exact bv_one _ | assumption | (simp [Value.oneCell']; done)) (fun w906 hr16 ho906 => ?_))
            have hS905 := hS904.add1 ho906 (by first | (left; omega) | (right; simp; done) | (right; simp; omega))
            refine ⟨hS905, ?_⟩
            replace hr14 := hr14.only ho906 (Nat.ne_of_lt lt_g14_g16)
            replace hB := ho906.below hB ge_hB_g16
            replace hB1 := ho906.below hB1 ge_hB1_g16
            refine WA_done (by kernel_rfl) ?_
            refine thenN ?_
            refine W_seq ?_
            refine W_region ?_
            refine WR_val rfl (rn_move) ?_
            refine WR_val rfl (rn_neq rfl rfl) ?_
            refine WR_val rfl (rn_move) ?_
            refine WR_fp 111 rfl ((by omega)) ?_
            refine WR_yes rfl ?_
            refine WR_val rfl (rn_load rfl (Ld.rowA (k := 128) hr14 (by kernel_rfl) (by kernel_rfl) (by first | (simp; done) | (simp [bv_length, *]; done) | assumption))) ?_
            refine WR_yes rfl ?_
            refine WR_val rfl (rn_load rfl (Ld.rowA (k := 128) hr16 (by kernel_rfl) (by kernel_rfl) (by first | (simp; done) | (simp [bv_length, *]; done) | assumption))) ?_
            refine WR_yes rfl ?_
            refine WR_val rfl (rn_neqA (n := 128) (by kernel_rfl) rfl rfl (by rw [← bv_length]; exact hS2) (by rw [← bv_length]; exact hS2)) ?_
            refine WR_val rfl (rn_pick_f rfl) ?_
            refine WR_nil ?_
            refine thenN ?_
            refine W_fn rfl ((by simp)) ?_
            refine W_skip ?_
            refine blockN ?_
            refine thenN ?_
            refine W_region ?_
            refine WR_val rfl (rn_move) ?_
            refine WR_val rfl (rn_add rfl rfl (Coup.w64 (by omega))) ?_
            refine WR_val rfl (rn_assign) ?_
            refine WR_nil ?_
            refine loopN ⟨k + 1, by omega, ⟨by go_num, rfl, rfl, rfl, rfl, rfl⟩, by omega, hX.new hB1, hall.below hB1 (Nat.le_refl _), hB⟩
          ·
            have hSe : A = S := by rw [← hS, leftAt, if_pos (by omega), hAg]
            refine W_skip ?_
            refine thenN ?_
            refine W_seq ?_
            refine W_region ?_
            refine WR_val rfl (rn_move) ?_
            refine WR_val rfl (rn_neq rfl rfl) ?_
            refine WR_val rfl (rn_move) ?_
            refine WR_fp 111 rfl ((by omega)) ?_
            refine WR_yes rfl ?_
            refine WR_val rfl (rn_load rfl (Ld.rowA (k := 128) hr14 (by kernel_rfl) (by kernel_rfl) (by first | (simp; done) | (simp [bv_length, *]; done) | assumption))) ?_
            refine WR_yes rfl ?_
            refine WR_val rfl (rn_load rfl (Ld.rowA (k := 128) hr16 (by kernel_rfl) (by kernel_rfl) (by first | (simp; done) | (simp [bv_length, *]; done) | assumption))) ?_
            refine WR_yes rfl ?_
            refine WR_val rfl (rn_neqA (n := 128) (by kernel_rfl) rfl rfl (by rw [← bv_length]; exact hS2) (by rw [← bv_length]; exact hAl)) ?_
            refine WR_val rfl (rn_pick_f rfl) ?_
            refine WR_nil ?_
            refine thenN ?_
            refine W_fn rfl ((by simp [hSe])) ?_
            refine W_skip ?_
            refine blockN ?_
            refine thenN ?_
            refine W_region ?_
            refine WR_val rfl (rn_move) ?_
            refine WR_val rfl (rn_add rfl rfl (Coup.w64 (by omega))) ?_
            refine WR_val rfl (rn_assign) ?_
            refine WR_nil ?_
            refine loopN ⟨k + 1, by omega, ⟨by go_num, rfl, rfl, rfl, rfl, rfl⟩, by omega, hX.new hB1, hall.below hB1 (Nat.le_refl _), hB⟩
        ·
          have hk00 : k = 0 := by omega
          have hSe : A = S := by
            rw [← hS, hk00]
            have h1 := hAg
            rw [hk00] at h1
            have e := List.exists_cons_of_ne_nil hVne
            obtain ⟨a, l, e⟩ := e
            rw [← h1, e]; rfl
          refine WR_no rfl rfl ?_
          refine WR_no rfl rfl ?_
          refine WR_no rfl rfl ?_
          refine WR_val rfl (rn_pick_f rfl) ?_
          refine WR_nil ?_
          refine thenN ?_
          refine W_fb rfl (rfl) ?_
          refine W_skip ?_
          refine thenN ?_
          refine W_seq ?_
          refine W_region ?_
          refine WR_val rfl (rn_move) ?_
          refine WR_val rfl (rn_neq rfl rfl) ?_
          refine WR_val rfl (rn_move) ?_
          refine WR_fp 111 rfl ((by omega)) ?_
          refine WR_yes rfl ?_
          refine WR_val rfl (rn_load rfl (Ld.rowA (k := 128) hr14 (by kernel_rfl) (by kernel_rfl) (by first | (simp; done) | (simp [bv_length, *]; done) | assumption))) ?_
          refine WR_yes rfl ?_
          refine WR_val rfl (rn_load rfl (Ld.rowA (k := 128) hr16 (by kernel_rfl) (by kernel_rfl) (by first | (simp; done) | (simp [bv_length, *]; done) | assumption))) ?_
          refine WR_yes rfl ?_
          refine WR_val rfl (rn_neqA (n := 128) (by kernel_rfl) rfl rfl (by rw [← bv_length]; exact hS2) (by rw [← bv_length]; exact hAl)) ?_
          refine WR_val rfl (rn_pick_f rfl) ?_
          refine WR_nil ?_
          refine thenN ?_
          refine W_fn rfl ((by simp [hSe])) ?_
          refine W_skip ?_
          refine blockN ?_
          refine thenN ?_
          refine W_region ?_
          refine WR_val rfl (rn_move) ?_
          refine WR_val rfl (rn_add rfl rfl (Coup.w64 (by omega))) ?_
          refine WR_val rfl (rn_assign) ?_
          refine WR_nil ?_
          refine loopN ⟨k + 1, by omega, ⟨by go_num, rfl, rfl, rfl, rfl, rfl⟩, by omega, hX.new hB1, hall.below hB1 (Nat.le_refl _), hB⟩
      ·
        refine W_exit ?_
        refine thenX ?_
        refine loopX ?_
        refine blockX ?_
        refine thenN ?_
        refine W_seq ?_
        refine W_region ?_
        refine WR_val rfl (rn_move) ?_
        refine WR_ent rfl (rn_call (by kernel_rfl) rfl) (copy21 hM0 hcap) ?_
        rintro _ w117 ⟨g1, pl1, m1, ol1, cl1, rfl, hM, hl1, hl2, hl3, hb117⟩
        replace hB := hB.acc hb117
        replace hB1 := hB1.acc hb117
        refine WR_val rfl (rn_move) ?_
        have hM00 := hM0.new hB1
        have q1 := hB1.size
        have p2 := hM.row.lt
        have p3 := hM.own.lt
        have p4 := hM.map.lt
        refine WR_ent rfl (rn_call (by kernel_rfl) rfl) (copy21 hM00 hcap) ?_
        rintro _ w119 ⟨g2, pl2, m2, ol2, cl2, rfl, hN, hk1, hk2, hk3, hb119⟩
        replace hM := hM.new hb119
        replace hB := hB.acc hb119
        replace hB1 := hB1.acc hb119
        refine WR_val rfl (rn_assign) ?_
        refine WR_val rfl (rn_assign) ?_
        refine WR_nil ?_
        refine thenN ?_
        refine W_seq ?_
        refine W_region ?_
        refine WR_val rfl (rn_move) ?_
        refine WR_val rfl (rn_lenSl (e := 34) (sz := 128) (by kernel_rfl) rfl rfl) ?_
        refine WR_val rfl (rn_mul rfl rfl (Coup.w64 (by omega))) ?_
        refine WR_val rfl (rn_add rfl rfl (Coup.w64 (by omega))) ?_
        refine WR_val rfl (rn_assign) ?_
        refine WR_nil ?_
        refine thenN ?_
        refine W_seq ?_
        refine W_region ?_
        refine WR_val rfl (rn_move) ?_
        refine WR_val rfl (rn_move) ?_
        have q2 := hM.row.lt
        have q3 := hM.own.lt
        have q4 := hM.map.lt
        have q5 := hN.row.lt
        have q6 := hN.own.lt
        have q7 := hN.map.lt
        refine WR_mk rfl (mk_one (e := 3) (.int .i64 pick) ([.int .i64 pick]) ([Value.int .i64 0]) 1 (by kernel_rfl) (by kernel_rfl) rfl rfl rfl ⟨by decide, by decide⟩ (fun g126 w126 hg126 hr126 hb126 => ?_))
        have ge_hB_g126 := Nat.le_trans hB.size hg126
        have ge_hB1_g126 := Nat.le_trans hB1.size hg126
        replace hM := hM.new hb126
        replace hN := hN.new hb126
        replace hB := hB.acc hb126
        replace hB1 := hB1.acc hb126
        have z1 := hb117.size
        have z2 := hb119.size
        have hkm := pick_mod pick (2 * n + 1) (by omega)
        rw [show ((2 * n + 1 : Nat) : Int) = 2 * (n : Int) + 1 by omega] at hkm
        obtain ⟨hkm1, hkm2, hkm3⟩ := hkm
        have hpn0 := Int.emod_nonneg pick (show (2 * (n : Int) + 1) ≠ 0 by omega)
        have hal : leftS V (pick % (2 * (n : Int) + 1)) = leftS V pick := leftS_alike (by rw [show ((2 * V.length - 1 : Nat) : Int) = 2 * (n : Int) + 1 by omega, Int.emod_emod_of_dvd _ (Int.dvd_refl _)])
        have hsm : ∀ D : Dk, sameD D D = true := fun D => decide_eq_true ⟨rfl, rfl⟩
        have hs126 : SlAt w126 (some ⟨g126, 0, none⟩) 1 1 (iv [pick]) := hr126.slA (m := 1) (sz := 1) rfl (by omega)
        have hcr := crash20 (cp := 1) hM (some ⟨g126, 0, none⟩) 1 [pick] hs126 (fun _ b o e hm => by cases e; simp at hm; omega)
        rw [one_crash hVne] at hcr
        have hN0 := hN
        refine WR_ent rfl (rn_call (by kernel_rfl) rfl) (hcr) ?_
        rintro _ w127 ⟨rfl, hM2, hb127⟩
        replace hB := hB.kpd hb127 (by first | (simp; done) | (simp; omega))
        replace hB1 := hB1.kpd hb127 (by first | (simp; done) | (simp; omega))
        have hN1 := hN0.kpd hb127 ⟨by simp; omega, by simp; omega, by simp; omega, fun b hb => by have := hG0 b hb; simp; omega⟩
        have z3 := hb127.size
        refine WR_val rfl (rn_eql rfl rfl) ?_
        refine WR_val rfl (rn_move) ?_
        refine WR_tp 129 rfl (rfl) ?_
        refine WR_yes rfl ?_
        refine WR_val rfl (rn_move) ?_
        refine WR_yes rfl ?_
        refine WR_val rfl (rn_move) ?_
        refine WR_yes rfl ?_
        refine WR_val rfl (rn_move) ?_
        refine WR_yes rfl ?_
        refine WR_val rfl (rn_rem rfl rfl (by omega) (rfl)) ?_
        refine WR_yes rfl ?_
        refine WR_val rfl (rn_move) ?_
        refine WR_yes rfl ?_
        refine WR_val rfl (rn_add rfl rfl (Coup.w64 (by omega))) ?_
        refine WR_yes rfl ?_
        refine WR_val rfl (rn_move) ?_
        refine WR_yes rfl ?_
        refine WR_val rfl (rn_rem rfl rfl (by omega) ((rm (by omega)).trans hkm1)) ?_
        refine WR_yes rfl ?_
        have r5 := hN1.row.lt
        have r6 := hN1.own.lt
        have r7 := hN1.map.lt
        refine WR_mk rfl (mk_one (e := 3) (.int .i64 (pick % (2 * (n : Int) + 1))) ([.int .i64 (pick % (2 * (n : Int) + 1))]) ([Value.int .i64 0]) 1 (by kernel_rfl) (by kernel_rfl) rfl rfl rfl ⟨by decide, by decide⟩ (fun g138 w138 hg138 hr138 hb138 => ?_))
        have ge_hB_g138 := Nat.le_trans hB.size hg138
        have ge_hB1_g138 := Nat.le_trans hB1.size hg138
        replace hM2 := hM2.new hb138
        replace hN1 := hN1.new hb138
        replace hB := hB.acc hb138
        replace hB1 := hB1.acc hb138
        refine WR_yes rfl ?_
        have hs138 : SlAt w138 (some ⟨g138, 0, none⟩) 1 1 (iv [pick % (2 * (n : Int) + 1)]) := hr138.slA (m := 1) (sz := 1) rfl (by omega)
        have hcr2 := crash20 (cp := 1) hN1 (some ⟨g138, 0, none⟩) 1 [pick % (2 * (n : Int) + 1)] hs138 (fun _ b o e hm => by cases e; simp at hm; omega)
        rw [one_crash hVne, hal] at hcr2
        have hM3 := hM2
        refine WR_ent rfl (rn_call (by kernel_rfl) rfl) (hcr2) ?_
        rintro _ w139 ⟨rfl, hN2, hb139⟩
        replace hB := hB.kpd hb139 (by first | (simp; done) | (simp; omega))
        replace hB1 := hB1.kpd hb139 (by first | (simp; done) | (simp; omega))
        have hM4 := hM3.kpd hb139 ⟨by simp; omega, by simp; omega, by simp; omega, fun b hb => by have := hG0 b hb; simp; omega⟩
        have hsa := same19 hM4 hN2
        rw [hsm] at hsa
        refine WR_yes rfl ?_
        refine WR_val rfl (rn_eql rfl rfl) ?_
        refine WR_val rfl (rn_pick_t rfl) ?_
        refine WR_val rfl (rn_move) ?_
        refine WR_tp 142 rfl (rfl) ?_
        refine WR_yes rfl ?_
        refine WR_val rfl (rn_move) ?_
        refine WR_yes rfl ?_
        refine WR_val rfl (rn_move) ?_
        refine WR_yes rfl ?_
        refine WR_ent rfl (rn_call (by kernel_rfl) rfl) (hsa) ?_
        rintro _ w145 ⟨rfl, hb145⟩
        replace hB := hB.acc hb145
        replace hB1 := hB1.acc hb145
        refine WR_val rfl (rn_pick_t rfl) ?_
        refine WR_val rfl (rn_move) ?_
        refine WR_tb 147 rfl (rfl) ?_
        refine WR_yes rfl ?_
        refine WR_ent rfl (rn_call (by kernel_rfl) rfl) (known10 w145) ?_
        rintro _ w148 ⟨rfl, hb148⟩
        replace hB := hB.acc hb148
        replace hB1 := hB1.acc hb148
        refine WR_val rfl (rn_pick_t rfl) ?_
        refine WR_val rfl (rn_assign) ?_
        refine WR_nil ?_
        refine thenN ?_
        refine W_ret ?_
        refine ret_ret [_] ⟨rfl, trivial⟩ ?_
        exact ⟨rfl, hB⟩
end Go.Proofs.Ytpndhildmfmcgaa
