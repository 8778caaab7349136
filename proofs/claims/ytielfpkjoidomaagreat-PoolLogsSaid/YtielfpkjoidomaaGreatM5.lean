import Derived.Test.YtielfpkjoidomaaGreatM4
import Derived.Test.YtielfpkjoidomaaGreatM3
import Derived.Test.YtielfpkjoidomaaGreatM0
import Derived.Lib.SlBytesConst
namespace Go.Proofs.YtielfpkjoidomaaGreat
open Go Go.RowKit Coup
def recP (P : Pl) : Rec := (prsP P.ch 0 P.n).map fun p => ⟨p.1, p.2⟩
def roomR (P : Pl) : Int × Pl := if ((P.G.size - P.G.at_ : Nat) : Int) < needW ((recP P).length : Int) then settleR P else (0, P)
def doneP (P : Pl) (R : Rec) : Pl := R.foldl (fun P c => { P with di := updP P.di c.num.toNat (some c.page), cl := without P.cl c.num }) P
def putC (P : Pl) (R : Rec) : Pl := { P with D := (commitR P.D P.G R).2.1, G := (commitR P.D P.G R).2.2 }
def commitP (P : Pl) : Int × Pl :=
  if (recP P).length = 0 then (0, P) else if 60 < (recP P).length then (3, P) else if (P.G.size : Int) < needW ((recP P).length : Int) then (8, P)
  else if (roomR P).1 = 0 then
    if (commitR (roomR P).2.D (roomR P).2.G (recP P)).1 = 0 then (0, { doneP (putC (roomR P).2 (recP P)) (recP P) with ch := noP })
    else ((commitR (roomR P).2.D (roomR P).2.G (recP P)).1, keepR (commitR (roomR P).2.D (roomR P).2.G (recP P)).1 (putC (roomR P).2 (recP P)))
  else ((roomR P).1, keepR (roomR P).1 (roomR P).2)
theorem doneP_snoc {R : Rec} {i : Nat} {c : Ch} (h : R[i]? = some c) (P : Pl) : doneP P (R.take (i + 1)) = { doneP P (R.take i) with di := updP (doneP P (R.take i)).di c.num.toNat (some c.page), cl := without (doneP P (R.take i)).cl c.num } := by
  rw [List.take_add_one, h, doneP, List.foldl_append]
  rfl
theorem doneP_same : ∀ (R : Rec) (P : Pl), (doneP P R).D = P.D ∧ (doneP P R).G = P.G ∧ (doneP P R).fr = P.fr ∧ (doneP P R).ch = P.ch ∧ (doneP P R).dead = P.dead ∧ (doneP P R).n = P.n ∧ (chsOk P.cl → chsOk (doneP P R).cl) ∧ (doneP P R).cl.length ≤ P.cl.length
  | [], P => ⟨rfl, rfl, rfl, rfl, rfl, rfl, id, Nat.le_refl _⟩
  | c :: R, P => by
    obtain ⟨h1, h2, h3, h4, h5, h6, h7, h8⟩ := doneP_same R { P with di := updP P.di c.num.toNat (some c.page), cl := without P.cl c.num }
    exact ⟨h1, h2, h3, h4, h5, h6, fun hc => h7 (without_ok hc c.num), Nat.le_trans h8 (without_len P.cl c.num)⟩
theorem putW_len (D : Dk) (a : Nat) (R : List Sec) : (putW D a R).1.V.length = D.V.length := by
  unfold putW
  split
  · rw [flush_len, writesW_len]
  · exact writesW_len _ _ _
theorem commitR_same (D : Dk) (G : Lg) (R : Rec) : (commitR D G R).2.1.V.length = D.V.length ∧ (commitR D G R).2.2.size = G.size := by
  unfold commitR
  split
  · exact ⟨rfl, rfl⟩
  · split
    · exact ⟨rfl, rfl⟩
    · split
      · exact ⟨rfl, rfl⟩
      · split <;> exact ⟨putW_len _ _ _, rfl⟩
theorem settle_len (P : Pl) : (settleR P).2.D.V.length = P.D.V.length ∧ (settleR P).2.G.size = P.G.size ∧ (settleR P).2.ch = P.ch ∧ (settleR P).2.cl = P.cl ∧ (settleR P).2.fr = P.fr ∧ (settleR P).2.dead = P.dead ∧ (settleR P).2.n = P.n := by
  have h1 := wrAll_len P.G.size (prsP P.di 0 P.n) P.D
  have h3 : ∀ D, (flushD D).V.length = D.V.length := fun D => flush_len
  have h2 := truncR_same (flushD (settleD P).1) P.G
  unfold settleR
  split
  · split
    · have e : (truncR (flushD (settleD P).1) P.G).2.1.V.length = P.D.V.length := by rw [h2.1, h3]; exact h1
      refine ⟨e, h2.2, rfl, rfl, rfl, rfl, ?_⟩
      unfold Pl.n; dsimp only; rw [e, h2.2]
    · have e : (flushD (settleD P).1).V.length = P.D.V.length := by rw [h3]; exact h1
      refine ⟨e, rfl, rfl, rfl, rfl, rfl, ?_⟩
      unfold Pl.n; dsimp only; rw [e]
  · refine ⟨h1, rfl, rfl, rfl, rfl, rfl, ?_⟩
    unfold Pl.n settleD; dsimp only; rw [h1]
theorem flush_short {D : Dk} (h : stepOk D = true) : shortD (flushD D) 1 := fun v hv => by
  rw [flushD, if_pos h] at hv
  obtain ⟨u, _, rfl⟩ := List.mem_map.1 hv
  exact Nat.le_refl 1
theorem settle_ok {P : Pl} (hok : PlOk P) (he : (settleR P).1 = 0) : PlOk (settleR P).2 ∧ shortD (settleR P).2.D 1 ∧ (settleR P).2.di = noP ∧ (settleR P).2.G = truncG P.G ∧ P.G.dead = false ∧ P.G.count < 4611686018427387904 ∧
    (settleD P).2 = true ∧ stepOk (settleD P).1 = true ∧ saveE (flushD (settleD P).1) (P.G.count + 1) (P.G.count + 1) = true ∧ (settleR P).2.D = saveD (flushD (settleD P).1) (P.G.count + 1) (P.G.count + 1) := by
  obtain ⟨l1, l2, l3, l4, l5, l6, l7⟩ := settle_len P
  have hlg := hok.lg
  have hcore : (settleD P).2 = true ∧ stepOk (settleD P).1 = true ∧ P.G.dead = false ∧ P.G.count < 4611686018427387904 ∧ saveE (flushD (settleD P).1) (P.G.count + 1) (P.G.count + 1) = true ∧
      settleR P = (0, { P with D := saveD (flushD (settleD P).1) (P.G.count + 1) (P.G.count + 1), G := truncG P.G, di := noP }) := by
    unfold settleR at he ⊢
    by_cases h1 : (settleD P).2 = true
    · rw [if_pos h1] at he ⊢
      by_cases h2 : stepOk (settleD P).1 = true
      · rw [if_pos h2] at he ⊢
        refine ⟨h1, h2, ?_⟩
        generalize flushD (settleD P).1 = D1 at *
        dsimp only at he
        unfold truncR at he ⊢
        by_cases h3 : P.G.dead = true
        · rw [if_pos h3] at he; exact absurd he (by simp)
        · rw [if_neg h3] at he ⊢
          by_cases h4 : P.G.count = 4611686018427387904
          · rw [if_pos h4] at he; exact absurd he (by simp)
          · rw [if_neg h4] at he ⊢
            by_cases h5 : saveE D1 (P.G.count + 1) (P.G.count + 1) = true
            · rw [if_pos h5]
              exact ⟨by simpa using h3, by have := hlg.cm; omega, h5, rfl⟩
            · rw [if_neg h5] at he; exact absurd he (by simp)
      · rw [if_neg h2] at he; exact absurd he (by simp)
    · rw [if_neg h1] at he; exact absurd he (by simp)
  obtain ⟨c1, c2, c3, c4, c5, c6⟩ := hcore
  rw [c6] at l1 l7 ⊢
  dsimp only at l1 l7
  refine ⟨⟨⟨?_, ?_, ?_, hlg.sz4, hlg.szm, Nat.zero_le _, Nat.le_refl _, ?_⟩, ?_, hok.fr2, hok.frm, hok.ch, (fun i b h => nomatch h), hok.cl, hok.cll⟩, ?_, rfl, rfl, c3, c4, c1, c2, c5, rfl⟩
  · show 1 ≤ P.G.count + 1; omega
  · show P.G.count + 1 ≤ P.G.count + 1; omega
  · show P.G.count + 1 ≤ _; omega
  · show 1 + P.G.size ≤ (saveD _ _ _).V.length
    rw [l1]; exact hlg.fit
  · rw [l7]; exact hok.n4
  · unfold saveE at c5
    rw [Bool.and_eq_true] at c5
    show shortD (saveD _ _ _) 1
    unfold saveD
    rw [if_pos c5.1]
    exact flush_short c5.2
theorem recP_ok {P : Pl} (hok : PlOk P) : chsOk (recP P) ∧ (recP P).length ≤ P.n ∧ ∀ c ∈ recP P, ∃ n : Nat, c.num = n ∧ n < P.n ∧ P.ch n = some c.page := by
  refine ⟨fun c hc => ?_, ?_, fun c hc => ?_⟩
  · obtain ⟨p, hp, rfl⟩ := List.mem_map.1 hc
    exact hok.ch _ _ (prs_mem hp).1
  · unfold recP; rw [List.length_map]; exact prs_len _ _ _
  · obtain ⟨p, hp, rfl⟩ := List.mem_map.1 hc
    have := prs_mem hp
    exact ⟨p.1, rfl, by omega, this.1⟩
theorem ld_chp {w : World} {g t : Nat} {c : Ch} (h : row w g (chV c) t) (hc : c.page.length = 512) : Ld Tryz.prog w 37 ⟨g, 1, none⟩ (.agg (bv c.page).toArray) := by
  have h1 := Ld.rowN (P := Tryz.prog) (t := 37) (k := 512) (off := 1) h (by kernel_rfl) (by kernel_rfl) (by rw [chV_len hc]; omega)
  have e : ((chV c).drop 1).take 512 = bv c.page := by
    rw [chV, List.drop_succ_cons, List.drop_zero, List.take_of_length_le (by rw [bv_length, hc]; exact Nat.le_refl _)]
  rw [e] at h1
  exact h1
section
variable {Y : World → List Nat → Prop} [Thing Y] {g x q mc md lo : Nat} {rv cv : Value} {L : List Nat} {P : Pl} {w w' : World}
theorem commitPl (h : PlAt g x q mc md rv cv Y lo L P w) (hok : LgOk P.D P.G) (hsh : shortD P.D 80000) (R : Rec) (hR : chsOk R) (p : Option Addr) (n cp : Nat) (hs : SlAt w p n 513 (chsV R)) (hn : R.length = n) (hn2 : n ≤ 1000000) :
    Calls Tryz.prog 41 [.pointer (some ⟨x, 0, none⟩), .slice p n cp].toArray w (Ret fun v w' => v = .int .i64 (commitR P.D P.G R).1 ∧ PlAt g x q mc md rv cv Y lo L (putC P R) w' ∧ LoL lo L w w') := by
  refine (commit17 h.lg hok hsh R hR p n cp hs hn hn2).to fun v w' ⟨hv, hG, k⟩ => ?_
  have hs := commitR_same P.D P.G R
  exact ⟨hv, h.setLg hG k hs.2 hs.1, h.outLo k⟩
set_option maxRecDepth 20000 in
set_option maxHeartbeats 2000000 in
theorem commitYes (h : PlAt g x q mc md cv cv Y lo L P w) (hok : PlOk P) (hde : P.dead = false) (hsh : shortD P.D 70000) : Calls Tryz.prog 16 [.pointer (some ⟨q, 0, none⟩)].toArray w (Ret fun v w' => v = .int .i64 (commitP P).1 ∧ (∃ cv', PlAt g x q mc md cv' cv' Y lo L (commitP P).2 w') ∧ LoL lo L w w') := by
  have hn4 := hok.n4
  have hnl := h.nle.1
  have hml : maxLen = 9223372036854775807 := by decide
  have hrd := readyP h hok.lg.szm 0
  unfold readyE at hrd
  have hin : (0 : Int) ≤ 0 ∧ (0 : Int) < (P.n : Int) := by omega
  rw [hde, if_neg (by simp), if_pos hin] at hrd
  obtain ⟨hRok, hRl, hRn⟩ := recP_ok hok
  have hkp : keysP P.ch P.n = (recP P).map (·.num) := by unfold keysP recP; rw [prs_keys, List.map_map]; rfl
  have hCh := fun w' (h' : PlAt g x q mc md cv cv Y lo L P w') => changedP h'
  have hst := fun L' w' (h' : PlAt g x q mc md cv cv Y lo L' P w') => settleP h' hok hsh
  have hsok := fun he => settle_ok hok he
  have hslen := settle_len P
  obtain ⟨Z, hZ⟩ : ∃ Z, commitP P = Z := ⟨_, rfl⟩
  rw [hZ]
  unfold commitP roomR at hZ
  obtain ⟨R, hR⟩ : ∃ R, recP P = R := ⟨_, rfl⟩
  rw [hR] at hkp hRok hRl hRn
  simp only [hR] at hZ
  obtain ⟨ks, hks⟩ : ∃ ks, keysP P.ch P.n = ks := ⟨_, rfl⟩
  rw [hks] at hkp
  simp only [hks] at hCh
  have hkl : ks.length = R.length := by rw [hkp, List.length_map]
  have hB := Below.refl w.heap.size w
  have hwP := fun w' (hb : Below w.heap.size w w') => h.new hb
  refine calls_W (fn := Tryz.f16) (rs := [.tmp 2]) (n := 102) Tryz.func16 rfl rfl Tryz.ntmps16 (by kernel_rfl) rfl ?_
  refine W_seq ?_
  refine W_region ?_
  refine WR_val rfl (rn_assign) ?_
  refine WR_nil ?_
  refine thenN ?_
  refine W_seq ?_
  refine W_seq ?_
  refine W_region ?_
  refine WR_val rfl (rn_move) ?_
  refine WR_ent rfl (rn_call (by kernel_rfl) rfl) (hrd) ?_
  rintro _ w12 ⟨rfl, hb12⟩
  replace hB := hB.acc hb12
  refine WR_val rfl (rn_assign) ?_
  refine WR_nil ?_
  refine thenN ?_
  refine W_seq ?_
  refine W_region ?_
  refine WR_val rfl (rn_move) ?_
  refine WR_val rfl (rn_neq rfl rfl) ?_
  refine WR_nil ?_
  refine thenN ?_
  refine W_fp rfl ((by simp)) ?_
  refine W_skip ?_
  refine thenN ?_
  refine W_seq ?_
  refine W_region ?_
  refine WR_val rfl (rn_assign) ?_
  refine WR_nil ?_
  refine thenN ?_
  refine W_seq ?_
  refine W_seq ?_
  refine W_region ?_
  refine WR_val rfl (rn_move) ?_
  refine WR_ent rfl (rn_call (by kernel_rfl) rfl) (hCh w12 (hwP _ hB)) ?_
  rintro _ w17 ⟨⟨p, c, rfl, hks1, hpb⟩, hb17⟩
  replace hB := hB.acc hb17
  refine WR_val rfl (rn_lenSl (e := 3) (sz := 1) (by kernel_rfl) rfl rfl) ?_
  refine WR_val rfl (rn_move) ?_
  refine WR_nil ?_
  refine thenN ?_
  refine W_block ?_
  have hszW := hB.size
  have hpb2 : ∀ b o, p = some ⟨b, o, none⟩ → 0 < ks.length → b < w17.heap.size := fun b o e h0 => by
    have hobt := hks1.some (by omega)
    obtain ⟨g9, o9, e9, l9⟩ := hobt
    rw [e] at e9; cases e9; exact l9
  refine W_loop (α := Nat × Value) (0, .slice none 0 0) (fun a => [(19, .int .i64 (a.1 : Nat)), (18, .int .i64 (ks.length : Int)), (17, .slice p ks.length c), (4, a.2), (0, .pointer (some ⟨q, 0, none⟩))])
    (fun a w' => a.1 ≤ R.length ∧ ownsAt w' w17.heap.size 73 513 a.2 a.1 (chsV (R.take a.1)) ∧ SlAt w' p ks.length 1 (iv ks) ∧ Below w.heap.size w w' ∧ w17.heap.size ≤ w'.heap.size) (fun a => R.length - a.1)
    ⟨rfl, rfl, rfl, rfl, rfl, rfl⟩ ⟨Nat.zero_le _, ownsAt_nil _ _ _ _, hks1, hB, Nat.le_refl _⟩ ?_
  clear hB hks1
  rintro ⟨i, u⟩ f wr ⟨hi, hu, hks1, hB, hszr⟩
  dsimp only at hi hu hks1 hB hszr ⊢
  refine W_seq ?_
  refine W_region ?_
  refine WR_val rfl (rn_lss rfl rfl) ?_
  refine WR_nil ?_
  refine thenN ?_
  refine W_seq ?_
  refine W_ifp rfl (fun hlt => ?_) (fun hlt => ?_)
  ·
    refine W_skip ?_
    refine thenN ?_
    refine W_seq ?_
    refine W_block ?_
    refine W_seq ?_
    have hob : ∃ ch, R[i]? = some ch := ⟨_, List.getElem?_eq_getElem (by omega)⟩
    obtain ⟨ch, hch⟩ := hob
    have hki : ks[i]? = some ch.num := by rw [hkp, List.getElem?_map, hch]; rfl
    have hR3 := hRn ch (List.mem_of_getElem? hch)
    obtain ⟨n, hcn, hnN, hpn⟩ := hR3
    have hXl := hRok ch (List.mem_of_getElem? hch)
    have hobg := hks1.some (by omega)
    obtain ⟨gp, op, hgp, hgpl⟩ := hobg
    subst hgp
    have hgp2 := hpb2 gp op rfl (by omega)
    have hvv : (mapV P.ch n).getD (.agg zP.toArray) = .agg (bv ch.page).toArray := by unfold mapV; rw [hpn]; rfl
    have hPw := hwP _ hB
    have hq := hPw.row
    have hm := hPw.mch
    have hlts := hPw.lts
    have hql2 : q < w.heap.size := h.lts.1
    have hml2 : mc < w.heap.size := h.lts.2.1
    unfold plV at hq
    have hchl : (chV ch).length = 1 * 513 := chV_len hXl
    have hch1 := chV_one ch
    have htk : R.take (i + 1) = R.take i ++ [ch] := by rw [List.take_add_one, hch]; rfl
    refine W_region ?_
    refine WR_val rfl (rn_indexSl1 (e := 3) (by kernel_rfl) rfl rfl (i) (by omega) (by omega)) ?_
    refine WR_val rfl (rn_load rfl (Ld.sl1 hks1 (by kernel_rfl) (iv_some hki))) ?_
    refine WR_val rfl (rn_assign) ?_
    refine WR_nil ?_
    refine thenN ?_
    refine W_region ?_
    refine WR_val rfl (rn_move) ?_
    refine WR_val rfl (rn_move) ?_
    refine WR_val rfl (rn_move) ?_
    refine WR_val rfl (rn_nilCheckP rfl) ?_
    refine WR_val rfl (rn_fieldAddr (off := 4) (by kernel_rfl) rfl) ?_
    refine WR_val rfl (rn_load rfl (Ld.row1 hq (by kernel_rfl) rfl)) ?_
    refine WR_val rfl (rn_move) ?_
    refine WR_val rfl (rn_lookupV (k := 3) (e := 37) ((.agg zP.toArray)) (by kernel_rfl) (by kernel_rfl) (by intro w; first | kernel_rfl | rfl) hm rfl rfl (n) (by first | rfl | omega) (by omega) (by omega) hvv) ?_
    refine WR_val rfl (rn_buildCh hXl rfl rfl rfl) ?_
    refine WR_mk rfl (mk_one (e := 73) (.agg (chV ch).toArray) (chV ch) (([Value.int .i64 0]) ++ (List.replicate 512 (Value.int .u8 0))) 513 (by kernel_rfl) (by kernel_rfl) rfl rfl (by first | rfl | (simp; done) | (simp [bv_length, *]; done)) ⟨by decide, by decide⟩ (fun g32 w32 hg32 hr32 hb32 => ?_))
    have ge_hB_g32 := Nat.le_trans hB.size hg32
    have lt_q_g32 : q < g32 := Nat.lt_of_lt_of_le hq.lt hg32
    have lt_mc_g32 : mc < g32 := Nat.lt_of_lt_of_le hm.lt hg32
    replace hu := hu.new hb32
    replace hq := hq.new hb32
    replace hm := hm.new hb32
    replace hks1 := hks1.new hb32
    replace hB := hB.acc hb32
    have hszp := hb32.size
    have hs32 := hr32.slA (m := 1) (sz := 513) hchl (by omega)
    have sz_hB_33 := hB.size
    refine WR_mk rfl (mk_append (e := 73) (sz := 513) (bytes := 520) (z := .agg (([Value.int .i64 0]) ++ (List.replicate 512 (Value.int .u8 0))).toArray) (by kernel_rfl) rfl (by kernel_rfl) rfl (by decide) rfl hu rfl hs32 hch1 (by unfold maxLen; omega) (by omega) (fun hm0 => by omega) (fun v33 w33 hv33 hgr33 hfr33 => ?_))
    replace hq := hq.own hu hgr33 (by omega)
    replace hm := hm.own hu hgr33 (by omega)
    replace hks1 := hks1.own hu hgr33 (by omega)
    replace hB := hB.own hu hgr33 (by omega)
    refine WR_val rfl (rn_assign) ?_
    refine WR_nil ?_
    refine blockN ?_
    refine thenN ?_
    refine W_region ?_
    refine WR_val rfl (rn_add rfl rfl (Coup.w64 (by omega))) ?_
    refine WR_val rfl (rn_move) ?_
    refine WR_nil ?_
    rw [← chsV_snoc, ← htk] at hv33
    refine loopN ⟨(i + 1, v33), by omega, ⟨by go_num, rfl, rfl, rfl, rfl, rfl⟩, by omega, hv33, hks1, hB, by have h1 := hb32.size; have h2 := hgr33.size; omega⟩
  ·
    have hil : i = R.length := by omega
    subst hil
    rw [List.take_length] at hu
    have hob : ∃ pr cr, u = .slice pr R.length cr ∧ SlAt wr pr R.length 513 (chsV R) ∧ ∀ b o, pr = some ⟨b, o, none⟩ → w.heap.size ≤ b := by
      rcases hu.2 with ⟨hv, h0⟩ | ⟨gb, ob, cb, cur, hv, hb, _⟩
      · rw [h0] at hu ⊢
        rw [hv] at hu
        exact ⟨none, 0, hv, hu.sl, fun b o e => nomatch e⟩
      · rw [hv] at hu
        exact ⟨_, cb, hv, hu.sl, fun b o e => by cases e; omega⟩
    obtain ⟨pr, cr, hu2, hrs, hfr⟩ := hob
    subst hu2
    have hN := h.sl hB hrs (by omega) hfr
    obtain ⟨L2, hL12, hpL, hP⟩ := hN
    have hLL0 : LoL lo L w wr := LoL.of_below hB
    clear hu hks1 hpb hpb2
    have hB0 := hB
    have hLL := LoL.refl lo L2 wr
    have hlt0 := hP.ltL
    have hq := hP.row
    unfold plV at hq
    refine W_exit ?_
    refine thenX ?_
    refine loopX ?_
    refine blockX ?_
    refine thenN ?_
    refine W_seq ?_
    refine W_block ?_
    refine W_seq ?_
    refine W_region ?_
    refine WR_val rfl (rn_move) ?_
    refine WR_val rfl (rn_lenSl (e := 73) (sz := 513) (by kernel_rfl) rfl rfl) ?_
    refine WR_val rfl (rn_eql rfl rfl) ?_
    refine WR_val rfl (rn_assign) ?_
    refine WR_nil ?_
    refine thenN ?_
    refine W_ifp rfl (fun h0 => ?_) (fun h0 => ?_)
    ·
      refine W_seq ?_
      refine W_region ?_
      refine WR_val rfl (rn_assign) ?_
      refine WR_nil ?_
      refine thenN ?_
      refine W_ret ?_
      refine blockR ?_
      refine thenR ?_
      refine ret_ret [_] ⟨rfl, trivial⟩ ?_
      have hR0 : R.length = 0 := by omega
      rw [if_pos hR0] at hZ
      subst hZ
      exact ⟨rfl, ⟨_, hP.weak hL12⟩, hLL0.ll hLL hL12⟩
    ·
      have hR0 : ¬ R.length = 0 := by omega
      rw [if_neg hR0] at hZ
      have hobg := hrs.some (by omega)
      obtain ⟨gp, op, hgp, hgpl⟩ := hobg
      subst hgp
      have hgpL : gp ∈ L2 := hpL (by omega) gp op rfl
      refine W_seq ?_
      refine W_region ?_
      refine WR_val rfl (rn_move) ?_
      refine WR_val rfl (rn_lenSl (e := 73) (sz := 513) (by kernel_rfl) rfl rfl) ?_
      refine WR_val rfl (rn_gtr rfl rfl) ?_
      refine WR_val rfl (rn_assign) ?_
      refine WR_nil ?_
      refine thenN ?_
      refine W_ifp rfl (fun h60 => ?_) (fun h60 => ?_)
      ·
        refine W_seq ?_
        refine W_region ?_
        refine WR_val rfl (rn_assign) ?_
        refine WR_nil ?_
        refine thenN ?_
        refine W_ret ?_
        refine blockR ?_
        refine thenR ?_
        refine ret_ret [_] ⟨rfl, trivial⟩ ?_
        have hR1 : 60 < R.length := by omega
        rw [if_pos hR1] at hZ
        subst hZ
        exact ⟨rfl, ⟨_, hP.weak hL12⟩, hLL0.ll hLL hL12⟩
      ·
        have hR1 : ¬ 60 < R.length := by omega
        rw [if_neg hR1] at hZ
        refine W_seq ?_
        refine W_draw' [] (by kernel_rfl) ?_
        intro w901 hb901 hS901
        replace hP := hP.new hb901
        replace hLL := hLL.new hb901
        replace hq := hq.new hb901
        replace hrs := hrs.new hb901
        have hP_d901 := hP
        have hLL_d901 := hLL
        have hq_d901 := hq
        have hrs_d901 := hrs
        refine WA_take 0 (by kernel_rfl) rfl (fun _ _ => rn_move) ?_
        refine WA_take 1 (by kernel_rfl) rfl (fun _ _ => rn_lenSl (e := 73) (sz := 513) (by kernel_rfl) rfl rfl) ?_
        refine WA_call 2 (by kernel_rfl) rfl (fun _ => rn_call (by kernel_rfl) rfl) (fun w' hS' => need10 (R.length : Int) w') ?_
        refine WA_take 3 (by kernel_rfl) rfl (fun _ _ => rn_move) ?_
        refine WA_take 4 (by kernel_rfl) rfl (fun _ _ => rn_nilCheckP rfl) ?_
        refine WA_take 5 (by kernel_rfl) rfl (fun _ _ => rn_fieldAddr (off := 2) (by kernel_rfl) rfl) ?_
        refine WA_take 6 (by kernel_rfl) rfl (fun w' hS' => rn_load rfl (Ld.row1 (hq_d901.kpd hS' (by first | (simp; done) | (simp; omega) | (simp [*]; done) | exact notLL (Or.inl (by omega)) | exact notLL (Or.inr (by simp)) | exact fun g hm => Nat.le_trans (by omega) (inLL hm).1 | (intro b o e; cases e; exact notLL (Or.inl (by omega))) | (intro b hm; have := (hu.lt b (Option.mem_toList.1 hm)).1; omega) | (intro b o e; cases e; intro hm; have := (hu.lt _ (Option.mem_toList.1 hm)).1; omega))) (by kernel_rfl) rfl)) ?_
        refine WA_take 7 (by kernel_rfl) rfl (fun _ _ => rn_gtr rfl rfl) ?_
        refine WA_take 8 (by kernel_rfl) rfl (fun _ _ => rn_assign) ?_
        refine WA_done (by kernel_rfl) ?_
        refine thenN ?_
        refine W_ifp rfl (fun hsz => ?_) (fun hsz => ?_)
        ·
          refine W_seq ?_
          refine W_region ?_
          refine WR_val rfl (rn_assign) ?_
          refine WR_nil ?_
          refine thenN ?_
          refine W_ret ?_
          refine blockR ?_
          refine thenR ?_
          refine ret_ret [_] ⟨rfl, trivial⟩ ?_
          have hsz2 : (P.G.size : Int) < needW (R.length : Int) := hsz
          rw [if_pos hsz2] at hZ
          subst hZ
          exact ⟨rfl, ⟨_, hP.weak hL12⟩, hLL0.ll hLL hL12⟩
        ·
          have hsz2 : ¬ (P.G.size : Int) < needW (R.length : Int) := hsz
          rw [if_neg hsz2] at hZ
          have hobt : ∃ S, (if ((P.G.size - P.G.at_ : Nat) : Int) < needW (R.length : Int) then settleR P else (0, P)) = S := ⟨_, rfl⟩
          obtain ⟨S, hS⟩ := hobt
          rw [hS] at hZ
          have hw0 : World := w901
          refine W_skip ?_
          refine blockN ?_
          refine thenN ?_
          refine W_cut (fun _ : Unit => [(4, .slice (some ⟨gp, op, none⟩) R.length cr), (0, .pointer (some ⟨q, 0, none⟩))]) (fun _ w' => S.1 = 0 ∧ PlAt g x q mc md cv cv Y lo L2 S.2 w' ∧ SlAt w' (some ⟨gp, op, none⟩) R.length 513 (chsV R) ∧ LoL lo L2 wr w') ?_ ?_
          ·
            refine W_seq ?_
            refine W_draw' [] (by kernel_rfl) ?_
            intro w902 hb902 hS902
            replace hP := hP.new hb902
            replace hLL := hLL.new hb902
            replace hq := hq.new hb902
            replace hrs := hrs.new hb902
            have hP_d902 := hP
            have hLL_d902 := hLL
            have hq_d902 := hq
            have hrs_d902 := hrs
            refine WA_take 0 (by kernel_rfl) rfl (fun _ _ => rn_move) ?_
            refine WA_take 1 (by kernel_rfl) rfl (fun _ _ => rn_lenSl (e := 73) (sz := 513) (by kernel_rfl) rfl rfl) ?_
            refine WA_call 2 (by kernel_rfl) rfl (fun _ => rn_call (by kernel_rfl) rfl) (fun w' hS' => need10 (R.length : Int) w') ?_
            refine WA_take 3 (by kernel_rfl) rfl (fun _ _ => rn_move) ?_
            refine WA_take 4 (by kernel_rfl) rfl (fun _ _ => rn_nilCheckP rfl) ?_
            refine WA_take 5 (by kernel_rfl) rfl (fun _ _ => rn_fieldAddr (off := 1) (by kernel_rfl) rfl) ?_
            refine WA_take 6 (by kernel_rfl) rfl (fun w' hS' => rn_load rfl (Ld.row1 (hq_d902.kpd hS' (by first | (simp; done) | (simp; omega) | (simp [*]; done) | exact notLL (Or.inl (by omega)) | exact notLL (Or.inr (by simp)) | exact fun g hm => Nat.le_trans (by omega) (inLL hm).1 | (intro b o e; cases e; exact notLL (Or.inl (by omega))) | (intro b hm; have := (hu.lt b (Option.mem_toList.1 hm)).1; omega) | (intro b o e; cases e; intro hm; have := (hu.lt _ (Option.mem_toList.1 hm)).1; omega))) (by kernel_rfl) rfl)) ?_
            refine WA_one 7 (by kernel_rfl) ?_
            refine WO_ent rfl rfl (rn_call (by kernel_rfl) rfl) (room19 hP.lg hok.lg.at_ hok.lg.szm) ?_
            rintro _ w59 ⟨rfl, hb59⟩
            have hS903 := hS902.add0 hb59
            refine ⟨hS903, ?_⟩
            replace hP := hP.new hb59
            replace hLL := hLL.new hb59
            replace hq := hq.new hb59
            replace hrs := hrs.new hb59
            refine WA_take 8 (by kernel_rfl) rfl (fun _ _ => rn_gtr rfl rfl) ?_
            refine WA_done (by kernel_rfl) ?_
            refine thenN ?_
            refine W_ifp rfl (fun hgt => ?_) (fun hgt => ?_)
            ·
              refine W_seq ?_
              have hgt2 : ((P.G.size - P.G.at_ : Nat) : Int) < needW (R.length : Int) := hgt
              rw [if_pos hgt2] at hS
              refine W_region ?_
              refine WR_val rfl (rn_move) ?_
              refine WR_ent rfl (rn_call (by kernel_rfl) rfl) (hst _ w59 hP) ?_
              rintro _ w62 ⟨rfl, hP, hb62⟩
              replace hLL := hLL.ll hb62 (by first | (intro b hb; exact hb) | (intro b hb; simp [hb]; done) | simp)
              replace hrs := hrs.kpd hb62.kp (by first | (refine notLL ?_; left; omega) | (refine notLL ?_; right; simp; done) | (intro b o e; cases e; first | (refine notLL ?_; left; omega) | (refine notLL ?_; right; simp; done) | (refine notLL ?_; right; simp [*]; done)) | (intro b hb; refine notLL ?_; left; omega) | (intro b hb e; cases e; exact notLL (by right; simp [*]) hb))
              rw [hS] at hP
              refine WR_val rfl (rn_assign) ?_
              refine WR_nil ?_
              refine thenN ?_
              refine W_seq ?_
              refine W_region ?_
              refine WR_val rfl (rn_move) ?_
              refine WR_val rfl (rn_neq rfl rfl) ?_
              refine WR_nil ?_
              refine thenN ?_
              refine W_ifp rfl (fun hne => ?_) (fun hne => ?_)
              ·
                refine W_seq ?_
                have hne2 : ¬ S.1 = 0 := by rw [← hS]; exact hne
                rw [if_neg hne2] at hZ
                refine W_region ?_
                refine WR_val rfl (rn_move) ?_
                refine WR_val rfl (rn_move) ?_
                refine WR_ent rfl (rn_call (by kernel_rfl) rfl) (keepP hP (settleR P).1) ?_
                rintro _ w67 ⟨rfl, hP, hb67⟩
                replace hLL := hLL.ll hb67 (by first | (intro b hb; exact hb) | (intro b hb; simp [hb]; done) | simp)
                replace hrs := hrs.kpd hb67.kp (by first | (refine notLL ?_; left; omega) | (refine notLL ?_; right; simp; done) | (intro b o e; cases e; first | (refine notLL ?_; left; omega) | (refine notLL ?_; right; simp; done) | (refine notLL ?_; right; simp [*]; done)) | (intro b hb; refine notLL ?_; left; omega) | (intro b hb e; cases e; exact notLL (by right; simp [*]) hb))
                refine WR_val rfl (rn_assign) ?_
                refine WR_nil ?_
                refine thenN ?_
                refine W_ret ?_
                refine loopR ?_
                refine ret_ret [_] ⟨rfl, trivial⟩ ?_
                subst hZ
                rw [hS] at hP
                exact ⟨by rw [← hS]; rfl, ⟨_, hP.weak hL12⟩, hLL0.ll hLL hL12⟩
              ·
                have hne2 : S.1 = 0 := by rw [← hS]; simpa using hne
                refine W_skip ?_
                refine loopN ⟨(), ⟨rfl, rfl, rfl⟩, hne2, hP, hrs, hLL⟩
            ·
              have hgt2 : ¬ ((P.G.size - P.G.at_ : Nat) : Int) < needW (R.length : Int) := hgt
              rw [if_neg hgt2] at hS
              subst hS
              refine W_skip ?_
              refine loopN ⟨(), ⟨rfl, rfl, rfl⟩, rfl, hP, hrs, hLL⟩
          ·
            have hnSn : ∀ n : Nat, n < P.n → n < S.2.n := fun n hn => by
              by_cases hgt : ((P.G.size - P.G.at_ : Nat) : Int) < needW (R.length : Int)
              · rw [if_pos hgt] at hS
                rw [← hS, hslen.2.2.2.2.2.2]; exact hn
              · rw [if_neg hgt] at hS
                rw [← hS]; exact hn
            have hSok : S.1 = 0 → PlOk S.2 ∧ shortD S.2.D 80000 := fun he => by
              by_cases hgt : ((P.G.size - P.G.at_ : Nat) : Int) < needW (R.length : Int)
              · rw [if_pos hgt] at hS
                have h1 := hsok (by rw [hS]; exact he)
                rw [hS] at h1
                exact ⟨h1.1, short_of h1.2.1 (by omega)⟩
              · rw [if_neg hgt] at hS
                rw [← hS]
                exact ⟨hok, short_of hsh (by omega)⟩
            clear hP hLL hrs hq hS hst
            rintro _ f2 w2 ⟨he, hP, hrs, hLL⟩
            have hobt := hSok he
            obtain ⟨hok2, hsh2⟩ := hobt
            rw [if_pos he] at hZ
            have hcm := fun L' w' (h' : PlAt g x q mc md cv cv Y lo L' S.2 w') (hs' : SlAt w' (some ⟨gp, op, none⟩) R.length 513 (chsV R)) => commitPl h' hok2.lg hsh2 R hRok (some ⟨gp, op, none⟩) R.length cr hs' rfl (by omega)
            have hobt : ∃ P3, putC S.2 R = P3 := ⟨_, rfl⟩
            obtain ⟨P3, hP3⟩ := hobt
            have hobt : ∃ e3, (commitR S.2.D S.2.G R).1 = e3 := ⟨_, rfl⟩
            obtain ⟨e3, he3⟩ := hobt
            have hP3c : P3.cl = S.2.cl := by rw [← hP3]; rfl
            have hP3n : P3.n = S.2.n := by
              have := commitR_same S.2.D S.2.G R
              rw [← hP3]; unfold putC Pl.n; dsimp only; rw [this.1, this.2]
            rw [hP3, he3] at hZ
            simp only [hP3, he3] at hcm
            have hq := hP.row
            unfold plV at hq
            refine W_seq ?_
            refine W_seq ?_
            refine W_region ?_
            refine WR_val rfl (rn_move) ?_
            refine WR_val rfl (rn_nilCheckP rfl) ?_
            refine WR_val rfl (rn_fieldAddr (off := 1) (by kernel_rfl) rfl) ?_
            refine WR_val rfl (rn_load rfl (Ld.row1 hq (by kernel_rfl) rfl)) ?_
            refine WR_val rfl (rn_move) ?_
            refine WR_ent rfl (rn_call (by kernel_rfl) rfl) (hcm _ w2 hP hrs) ?_
            rintro _ w73 ⟨rfl, hP, hb73⟩
            replace hLL := hLL.ll hb73 (by first | (intro b hb; exact hb) | (intro b hb; simp [hb]; done) | simp)
            replace hrs := hrs.kpd hb73.kp (by first | (refine notLL ?_; left; omega) | (refine notLL ?_; right; simp; done) | (intro b o e; cases e; first | (refine notLL ?_; left; omega) | (refine notLL ?_; right; simp; done) | (refine notLL ?_; right; simp [*]; done)) | (intro b hb; refine notLL ?_; left; omega) | (intro b hb e; cases e; exact notLL (by right; simp [*]) hb))
            refine WR_val rfl (rn_assign) ?_
            refine WR_nil ?_
            refine thenN ?_
            refine W_seq ?_
            refine W_region ?_
            refine WR_val rfl (rn_move) ?_
            refine WR_val rfl (rn_neq rfl rfl) ?_
            refine WR_nil ?_
            refine thenN ?_
            refine W_ifp rfl (fun hne => ?_) (fun hne => ?_)
            ·
              refine W_seq ?_
              have hne2 : ¬ e3 = 0 := hne
              rw [if_neg hne2] at hZ
              refine W_region ?_
              refine WR_val rfl (rn_move) ?_
              refine WR_val rfl (rn_move) ?_
              refine WR_ent rfl (rn_call (by kernel_rfl) rfl) (keepP hP e3) ?_
              rintro _ w78 ⟨rfl, hP, hb78⟩
              replace hLL := hLL.ll hb78 (by first | (intro b hb; exact hb) | (intro b hb; simp [hb]; done) | simp)
              replace hrs := hrs.kpd hb78.kp (by first | (refine notLL ?_; left; omega) | (refine notLL ?_; right; simp; done) | (intro b o e; cases e; first | (refine notLL ?_; left; omega) | (refine notLL ?_; right; simp; done) | (refine notLL ?_; right; simp [*]; done)) | (intro b hb; refine notLL ?_; left; omega) | (intro b hb e; cases e; exact notLL (by right; simp [*]) hb))
              refine WR_val rfl (rn_assign) ?_
              refine WR_nil ?_
              refine thenN ?_
              refine W_ret ?_
              refine thenR ?_
              refine ret_ret [_] ⟨rfl, trivial⟩ ?_
              subst hZ
              exact ⟨rfl, ⟨_, hP.weak hL12⟩, hLL0.ll hLL hL12⟩
            ·
              have hne2 : e3 = 0 := by simpa using hne
              rw [if_pos hne2] at hZ
              subst hZ
              refine W_skip ?_
              refine thenN ?_
              refine W_seq ?_
              refine W_seq ?_
              refine W_region ?_
              refine WR_val rfl (rn_move) ?_
              refine WR_val rfl (rn_lenSl (e := 73) (sz := 513) (by kernel_rfl) rfl rfl) ?_
              refine WR_val rfl (rn_move) ?_
              refine WR_nil ?_
              refine thenN ?_
              refine W_block ?_
              refine W_loop (α := Nat × Value) (0, cv) (fun a => [(81, .int .i64 (a.1 : Nat)), (80, .int .i64 (R.length : Int)), (79, .slice (some ⟨gp, op, none⟩) R.length cr), (0, .pointer (some ⟨q, 0, none⟩))])
                (fun a w' => a.1 ≤ R.length ∧ PlAt g x q mc md a.2 a.2 Y lo L2 (doneP P3 (R.take a.1)) w' ∧ SlAt w' (some ⟨gp, op, none⟩) R.length 513 (chsV R) ∧ LoL lo L2 wr w') (fun a => R.length - a.1)
                ⟨rfl, rfl, rfl, rfl, rfl⟩ ⟨Nat.zero_le _, hP, hrs, hLL⟩ ?_
              clear hP hrs hLL
              rintro ⟨i, cv2⟩ f3 w3 ⟨hi, hP, hrs, hLL⟩
              dsimp only at hi hP hrs hLL ⊢
              have hobt := doneP_same (R.take i) P3
              obtain ⟨d1, d2, d3, d4, d5, d6, d7, d8⟩ := hobt
              have hclk := d7 (by rw [hP3c]; exact hok2.cl)
              refine W_seq ?_
              refine W_region ?_
              refine WR_val rfl (rn_lss rfl rfl) ?_
              refine WR_nil ?_
              refine thenN ?_
              refine W_seq ?_
              refine W_ifp rfl (fun hlt => ?_) (fun hlt => ?_)
              ·
                refine W_skip ?_
                refine thenN ?_
                refine W_seq ?_
                refine W_block ?_
                refine W_seq ?_
                have hLs := hLL.size
                have hob : ∃ ch, R[i]? = some ch := ⟨_, List.getElem?_eq_getElem (by omega)⟩
                obtain ⟨ch, hch⟩ := hob
                have hR3 := hRn ch (List.mem_of_getElem? hch)
                obtain ⟨n, hcn, hnN, hpn⟩ := hR3
                have hXl := hRok ch (List.mem_of_getElem? hch)
                have hchl : (chV ch).length = 513 := chV_len hXl
                have hch1 := chV_one ch
                have hdn := doneP_snoc hch P3
                refine W_region ?_
                refine WR_val rfl (rn_indexSl (e := 73) (sz := 513) (by kernel_rfl) rfl rfl (i) (by omega) (by omega)) ?_
                refine WR_val rfl (rn_load rfl (ld_ch hrs hRok hch)) ?_
                refine WR_mk rfl (mk_alloc (([Value.int .i64 0]) ++ (List.replicate 512 (Value.int .u8 0))) (by kernel_rfl) (fun g10 w10 hg10 hr10 hb10 => ?_))
                replace hP := hP.newc hb10 hg10 hr10.lt
                replace hLL := hLL.new hb10
                replace hrs := hrs.new hb10
                refine WR_sk rfl (sk_storeA 513 (chV ch) rfl rfl hr10 (by kernel_rfl) (by first | assumption | (simp; done) | (simp [bv_length, *]; done)) (by first | assumption | (simp; done) | (simp [bv_length, *]; done) | rfl) (by first | exact bv_one _ | assumption | (simp [Value.oneCell']; done)) (fun w904 hr10 ho904 => ?_))
                replace hP := hP.only ho904 (by first | (right; simp; done) | (left; omega))
                replace hLL := hLL.only ho904 (by first | omega | (right; exact ⟨by omega, by assumption⟩))
                replace hrs := hrs.only ho904 (by omega)
                refine WR_nil ?_
                refine thenN ?_
                refine W_seq ?_
                have hq := hP.row
                unfold plV at hq
                have hd := hP.mdi
                rw [d6, hP3n] at hd
                have hSn := hP.nle.1
                rw [d6, hP3n] at hSn
                have hnS : n < S.2.n := hnSn n hnN
                have hg10 : g10 ≠ md := fun e => hP.mdl.2 (by rw [e]; simp)
                have hqd := hP.qd
                have hgpd : gp ≠ md := fun e => hP.mdl.2 (by rw [← e]; simp [hgpL])
                have hobm := hP.mdl
                obtain ⟨hmdl, hmdL⟩ := hobm
                have hmdL2 : md ∉ L2 := fun hm => hmdL (List.mem_cons_of_mem _ hm)
                refine W_draw' [md] (by kernel_rfl) ?_
                intro w905 hb905 hS905
                replace hP := hP.new hb905
                replace hLL := hLL.new hb905
                replace hrs := hrs.new hb905
                replace hr10 := hr10.new hb905
                replace hq := hq.new hb905
                replace hd := hd.new hb905
                have hP_d905 := hP
                have hLL_d905 := hLL
                have hrs_d905 := hrs
                have hr10_d905 := hr10
                have hq_d905 := hq
                have hd_d905 := hd
                refine WA_take 0 (by kernel_rfl) rfl (fun _ _ => rn_move) ?_
                refine WA_take 1 (by kernel_rfl) rfl (fun _ _ => rn_nilCheckP rfl) ?_
                refine WA_take 2 (by kernel_rfl) rfl (fun _ _ => rn_fieldAddr (off := 5) (by kernel_rfl) rfl) ?_
                refine WA_take 3 (by kernel_rfl) rfl (fun w' hS' => rn_load rfl (Ld.row1 (hq_d905.kpd hS' (by first | (simp; done) | (simp; omega) | (simp [*]; done) | exact notLL (Or.inl (by omega)) | exact notLL (Or.inr (by simp)) | exact fun g hm => Nat.le_trans (by omega) (inLL hm).1 | (intro b o e; cases e; exact notLL (Or.inl (by omega))) | (intro b hm; have := (hu.lt b (Option.mem_toList.1 hm)).1; omega) | (intro b o e; cases e; intro hm; have := (hu.lt _ (Option.mem_toList.1 hm)).1; omega))) (by kernel_rfl) rfl)) ?_
                refine WA_take 4 (by kernel_rfl) rfl (fun _ _ => rn_fieldAddr (off := 0) (by kernel_rfl) rfl) ?_
                refine WA_take 5 (by kernel_rfl) rfl (fun w' hS' => rn_load rfl (Ld.row1 (hr10_d905.kpd hS' (by first | (simp; done) | (simp; omega) | (simp [*]; done) | exact notLL (Or.inl (by omega)) | exact notLL (Or.inr (by simp)) | exact fun g hm => Nat.le_trans (by omega) (inLL hm).1 | (intro b o e; cases e; exact notLL (Or.inl (by omega))) | (intro b hm; have := (hu.lt b (Option.mem_toList.1 hm)).1; omega) | (intro b o e; cases e; intro hm; have := (hu.lt _ (Option.mem_toList.1 hm)).1; omega))) (by kernel_rfl) rfl)) ?_
                refine WA_take 6 (by kernel_rfl) rfl (fun _ _ => rn_fieldAddr (off := 1) (by kernel_rfl) rfl) ?_
                refine WA_take 7 (by kernel_rfl) rfl (fun w' hS' => rn_load rfl (ld_chp (hr10_d905.kpd hS' (by first | (simp; done) | (simp; omega) | (simp [*]; done) | exact notLL (Or.inl (by omega)) | exact notLL (Or.inr (by simp)) | exact fun g hm => Nat.le_trans (by omega) (inLL hm).1 | (intro b o e; cases e; exact notLL (Or.inl (by omega))) | (intro b hm; have := (hu.lt b (Option.mem_toList.1 hm)).1; omega) | (intro b o e; cases e; intro hm; have := (hu.lt _ (Option.mem_toList.1 hm)).1; omega))) hXl)) ?_
                refine WA_one 8 (by kernel_rfl) ?_
                refine WO_sk rfl rfl (sk_mapUpd (k := 3) (e := 37) (.agg (bv ch.page).toArray) (by kernel_rfl) (by kernel_rfl) hd rfl rfl rfl (n) (by first | rfl | omega) (by omega) (by omega) (fun w907 hd ho907 => ?_))
                have hS906 := hS905.add1 ho907 (by first | (left; omega) | (right; simp; done) | (right; simp; omega))
                refine ⟨hS906, ?_⟩
                replace hLL := hLL.only ho907 (by first | omega | (right; exact ⟨by omega, by assumption⟩))
                replace hrs := hrs.only ho907 (by omega)
                replace hr10 := hr10.only ho907 (by omega)
                replace hq := hq.only ho907 (by omega)
                rw [mapV_some] at hd
                rw [← hP3n, ← d6] at hd
                have hP9 := hP.setDi hd ho907
                refine WA_done (by kernel_rfl) ?_
                refine thenN ?_
                refine W_region ?_
                refine WR_val rfl (rn_move) ?_
                refine WR_val rfl (rn_fieldAddr (off := 0) (by kernel_rfl) rfl) ?_
                refine WR_val rfl (rn_load rfl (Ld.row1 hr10 (by kernel_rfl) rfl)) ?_
                have hcn2 : ch.num.toNat = n := by rw [hcn]; rfl
                refine WR_ent rfl (rn_call (by kernel_rfl) rfl) (forgetP hP9 hclk ch.num) ?_
                rintro _ w96 ⟨rfl, ⟨cv3, hP9⟩, hb96⟩
                replace hLL := hLL.ll hb96 (by first | (intro b hb; exact hb) | (intro b hb; simp [hb]; done) | simp)
                replace hrs := hrs.kpd hb96.kp (by first | (refine notLL ?_; left; omega) | (refine notLL ?_; right; simp; done) | (intro b o e; cases e; first | (refine notLL ?_; left; omega) | (refine notLL ?_; right; simp; done) | (refine notLL ?_; right; simp [*]; done)) | (intro b hb; refine notLL ?_; left; omega) | (intro b hb e; cases e; exact notLL (by right; simp [*]) hb))
                replace hr10 := hr10.kpd hb96.kp (by first | (refine notLL ?_; left; omega) | (refine notLL ?_; right; simp; done) | (intro b o e; cases e; first | (refine notLL ?_; left; omega) | (refine notLL ?_; right; simp; done) | (refine notLL ?_; right; simp [*]; done)) | (intro b hb; refine notLL ?_; left; omega) | (intro b hb e; cases e; exact notLL (by right; simp [*]) hb))
                refine WR_nil ?_
                refine blockN ?_
                refine thenN ?_
                refine W_region ?_
                refine WR_val rfl (rn_add rfl rfl (Coup.w64 (by omega))) ?_
                refine WR_val rfl (rn_move) ?_
                refine WR_nil ?_
                rw [hcn2] at hdn
                refine loopN ⟨(i + 1, cv3), by omega, ⟨by go_num, rfl, rfl, rfl, rfl⟩, by omega, ?_, hrs, hLL⟩
                rw [hdn]
                exact hP9.weak (fun b hb => List.mem_cons_of_mem _ hb)
              ·
                have hiR : i = R.length := by omega
                subst hiR
                rw [List.take_length] at hP
                have hq := hP.row
                unfold plV at hq
                obtain ⟨hcl1, hcl2⟩ := hP.mcl
                refine W_exit ?_
                refine thenX ?_
                refine loopX ?_
                refine blockX ?_
                refine thenN ?_
                refine W_seq ?_
                refine W_region ?_
                refine WR_val rfl (rn_move) ?_
                refine WR_val rfl (rn_nilCheckP rfl) ?_
                refine WR_val rfl (rn_fieldAddr (off := 4) (by kernel_rfl) rfl) ?_
                refine WR_val rfl (rn_load rfl (Ld.row1 hq (by kernel_rfl) rfl)) ?_
                have hm := hP.mch
                refine WR_mk rfl (mk_clearMap (k := 3) (e := 37) (by kernel_rfl) hm rfl (fun w908 hm ho908 => ?_))
                replace hLL := hLL.only ho908 (by first | omega | (right; exact ⟨by omega, by assumption⟩))
                have hP2 := hP.setCh (c := noP) hm ho908
                refine WR_nil ?_
                refine thenN ?_
                refine W_seq ?_
                refine W_region ?_
                refine WR_val rfl (rn_assign) ?_
                refine WR_nil ?_
                refine thenN ?_
                refine W_ret ?_
                refine ret_ret [_] ⟨rfl, trivial⟩ ?_
                exact ⟨rfl, ⟨_, hP2.weak hL12⟩, hLL0.ll hLL hL12⟩
end
end Go.Proofs.YtielfpkjoidomaaGreat
namespace Go.Proofs.YtielfpkjoidomaaGreat
open Go Go.RowKit Coup
structure RecOk (r : Rec) : Prop where
  ok : chsOk r
  l1 : 1 ≤ r.length
  l60 : r.length ≤ 60
  num : ∀ c ∈ r, 0 ≤ c.num
theorem ofR_all {b : List UInt8} {r : Rec} (h : ofR b = some r) : b.length = 516 * r.length ∧ RecOk r := by
  rw [ofR] at h
  split at h
  · rename_i ho
    rw [ofOk, Bool.and_eq_true, Bool.and_eq_true] at ho
    have h1 := of_decide_eq_true ho.1.1
    have h2 := of_decide_eq_true ho.1.2
    have h3 := List.all_eq_true.1 ho.2
    have hr := Option.some.inj h
    have hl : r.length = b.length / 516 := by rw [← hr, ofL_len]
    refine ⟨by omega, ⟨fun c hc => ?_, by omega, by omega, fun c hc => ?_⟩⟩
    · rw [← hr] at hc
      obtain ⟨i, hi, rfl⟩ := List.mem_map.1 hc
      have := List.mem_range.1 hi
      exact chOf_page (by omega)
    · rw [← hr] at hc
      exact (of_decide_eq_true (h3 c hc)).1
  · cases h
theorem recs_all {s c : Nat} : ∀ (f k m : Nat) {X : List UInt8}, X.length = m * 128 → m ≤ f → atS (recsL s c k (rowsL f X m)) ≤ m ∧ (recsL s c k (rowsL f X m)).length ≤ atS (recsL s c k (rowsL f X m)) ∧ ∀ r ∈ recsL s c k (rowsL f X m), RecOk r
  | 0, k, m, X, _, _ => by
    have : recsL s c k (rowsL 0 X m) = [] := rfl
    rw [this]; exact ⟨Nat.zero_le _, Nat.zero_le _, fun r hr => nomatch hr⟩
  | f + 1, k, m, X, hl, hf => by
    cases hj : joinIs X m with
    | false =>
      have : rowsL (f + 1) X m = [] := by rw [rowsL, if_neg (by rw [hj]; simp)]
      rw [this]; exact ⟨Nat.zero_le _, Nat.zero_le _, fun r hr => nomatch hr⟩
    | true =>
      obtain ⟨h0, _, h3⟩ := join_facts hj
      obtain ⟨h4, h5⟩ := h3 hl
      rw [rowsL, if_pos hj]
      cases ho : okRow s c k ⟨hCount (halfAt X 0), hNum (halfAt X 0), joinB X⟩ with
      | none => rw [recsL_none ho]; exact ⟨Nat.zero_le _, Nat.zero_le _, fun r hr => nomatch hr⟩
      | some r =>
        rw [recsL_some ho]
        obtain ⟨ih1, ih2, ih3⟩ := recs_all f (k + 1) (m - needN (joinB X).length) (s := s) (c := c) (X := X.drop (128 * needN (joinB X).length)) (by rw [List.length_drop, hl]; omega) (by omega)
        have hr : ofR (joinB X) = some r := by
          unfold okRow at ho
          split at ho
          · exact ho
          · cases ho
        obtain ⟨hb, hrk⟩ := ofR_all hr
        have : atS (r :: recsL s c (k + 1) (rowsL f (X.drop (128 * needN (joinB X).length)) (m - needN (joinB X).length))) = needN (516 * r.length) + atS (recsL s c (k + 1) (rowsL f (X.drop (128 * needN (joinB X).length)) (m - needN (joinB X).length))) := by simp [atS]
        rw [this, ← hb, List.length_cons]
        refine ⟨by omega, by omega, fun x hx => ?_⟩
        rcases List.mem_cons.1 hx with rfl | hx
        · exact hrk
        · exact ih3 x hx
theorem logB_lenP {D : Dk} (h : DkOk D) {n : Nat} (hn : 1 + n ≤ D.V.length) : (logB D n).length = n * 128 := by
  unfold logB
  rw [flat_len]
  · simp
  · intro s hs
    obtain ⟨i, hi, rfl⟩ := List.mem_map.1 hs
    exact readD_len h (by have := List.mem_range.1 hi; omega)
theorem recsOf_all {D : Dk} {G : Lg} (h : DkOk D) (hn : 1 + G.size ≤ D.V.length) : atS (recsOf D G) ≤ G.size ∧ (recsOf D G).length ≤ atS (recsOf D G) ∧ ∀ r ∈ recsOf D G, RecOk r :=
  recs_all G.size 0 G.size (logB_lenP h hn) (Nat.le_refl _)
def addDi (n : Nat) (c : PgM) (R : Rec) : PgM := R.foldl (fun c h => if h.num < (n : Int) then updP c h.num.toNat (some h.page) else c) c
def addAll (n : Nat) (S : List Rec) : PgM := S.foldl (addDi n) noP
theorem addDi_snoc {R : Rec} {i : Nat} {h : Ch} (hh : R[i]? = some h) (n : Nat) (c : PgM) : addDi n c (R.take (i + 1)) = if h.num < (n : Int) then updP (addDi n c (R.take i)) h.num.toNat (some h.page) else addDi n c (R.take i) := by
  rw [List.take_add_one, hh, addDi, List.foldl_append]
  rfl
theorem addAll_snoc {S : List Rec} {i : Nat} {r : Rec} (hh : S[i]? = some r) (n : Nat) : addAll n (S.take (i + 1)) = addDi n (addAll n (S.take i)) r := by
  rw [List.take_add_one, hh, addAll, List.foldl_append]
  rfl
theorem addDi_ok {n : Nat} : ∀ (R : Rec) {c : PgM}, chsOk R → (∀ i b, c i = some b → b.length = 512) → ∀ i b, addDi n c R i = some b → b.length = 512
  | [], c, _, h => h
  | r :: R, c, hR, h => by
    refine addDi_ok R (fun x hx => hR x (List.mem_cons_of_mem _ hx)) ?_
    intro i b hb
    dsimp only at hb
    split at hb
    · unfold updP at hb
      split at hb
      · rw [← Option.some.inj hb]; exact hR r (List.mem_cons_self ..)
      · exact h i b hb
    · exact h i b hb
theorem addAll_ok {n : Nat} : ∀ (S : List Rec) {c : PgM}, (∀ r ∈ S, chsOk r) → (∀ i b, c i = some b → b.length = 512) → ∀ i b, S.foldl (addDi n) c i = some b → b.length = 512
  | [], c, _, h => h
  | r :: S, c, hS, h => addAll_ok S (fun x hx => hS x (List.mem_cons_of_mem _ hx)) (addDi_ok r (hS r (List.mem_cons_self ..)) h)
def openP0 (D : Dk) (n : Nat) (fr : Nat) : Pl :=
  ⟨saveD D (hdC (readD D 0) + 1) (hdS (readD D 0)), ⟨hdC (readD D 0) + 1, hdS (readD D 0), n, (recsOf D (headG D n)).length, atS (recsOf D (headG D n)), false⟩, fr, noP, addAll (cntP D.V.length n) (recsOf D (headG D n)), [], false⟩
def openR (D : Dk) (n : Nat) (fr : Nat) : Int × Pl := if (recsOf D (headG D n)).length = 0 then (0, openP0 D n fr) else checkR (openP0 D n fr)
theorem openP0_n (D : Dk) (n fr : Nat) : (openP0 D n fr).n = cntP D.V.length n := by
  unfold Pl.n openP0; dsimp only; rw [saveD_len]
theorem open_headP {D : Dk} {n : Int} (he : openE D n = 0) : fitsN D.V.length n = true ∧ hdIs (readD D 0) = true ∧ hdC (readD D 0) < 4611686018427387904 ∧ 1 ≤ hdS (readD D 0) ∧ hdS (readD D 0) ≤ hdC (readD D 0) := by
  have hfit : fitsN D.V.length n = true := Decidable.byContradiction fun hc => by
    unfold openE at he; rw [if_neg hc] at he; cases he
  have his : hdIs (readD D 0) = true := Decidable.byContradiction fun hc => by
    unfold openE at he; rw [if_pos hfit, if_neg hc] at he; cases he
  have hCn : hdC (readD D 0) ≠ 4611686018427387904 := fun hc => by
    unfold openE at he; rw [if_pos hfit, if_pos his] at he; rw [if_pos hc] at he; cases he
  have hi2 := his
  rw [hdIs, Bool.and_eq_true, Bool.and_eq_true, Bool.and_eq_true] at hi2
  have h3 := of_decide_eq_true hi2.2
  exact ⟨hfit, his, by omega, of_decide_eq_true hi2.1.1.2, of_decide_eq_true hi2.1.2⟩
theorem openP0_ok {D : Dk} (h : DkOk D) {n fr : Nat} (he : openE D n = 0) (hc : 4 ≤ cntP D.V.length n) (h2 : 2 ≤ fr) (hm : fr ≤ 100) : PlOk (openP0 D n fr) := by
  obtain ⟨h3, h4, h5, h6, h7⟩ := open_headP he
  have hft := of_decide_eq_true h3
  have hG : (headG D n).size = n := by rw [headG, Int.toNat_natCast]
  obtain ⟨r1, r2, r3⟩ := recsOf_all (G := headG D n) h (by rw [hG]; omega)
  rw [hG] at r1
  refine ⟨⟨h6, ?_, ?_, ?_, ?_, r1, r2, ?_⟩, by rw [openP0_n]; exact hc, h2, hm, (fun i b h => nomatch h), ?_, (fun c hc => nomatch hc), Nat.zero_le _⟩
  · show hdS (readD D 0) ≤ hdC (readD D 0) + 1; omega
  · show hdC (readD D 0) + 1 ≤ _; omega
  · show 4 ≤ n; omega
  · show n ≤ 4000; omega
  · show 1 + n ≤ (saveD _ _ _).V.length; rw [saveD_len]; omega
  · exact addAll_ok _ (fun r hr => (r3 r hr).ok) (fun i b h => nomatch h)
end Go.Proofs.YtielfpkjoidomaaGreat
namespace Go.Proofs.YtielfpkjoidomaaGreat
open Go Go.RowKit Coup
def noPool (e : Int) : Value := .tuple #[.pointer none, .int .i64 e]
def poolE (D : Dk) (n fr : Int) : Int := if cntP D.V.length n < 4 then 2 else if 2 ≤ fr ∧ fr ≤ 100 then openE D n else 2
theorem cntP_fit {l : Nat} {n : Int} (h : 4 ≤ cntP l n) : 4 ≤ n ∧ n ≤ 4000 ∧ 1 + n.toNat + 16 ≤ l := by
  unfold cntP at h
  split at h
  · omega
  · omega
section
variable {Y : World → List Nat → Prop} [Thing Y] {g x q mc md lo : Nat} {rv cv : Value} {L : List Nat} {P : Pl} {D : Dk} {w w' : World}
omit [Thing Y] in
theorem PlAt.left {Z : World → List Nat → Prop} (h : PlAt g x q mc md rv cv (AndZ Y Z) lo L P w) : PlAt g x q mc md rv cv Y lo L P w :=
  ⟨⟨two_left h.lg.two, h.lg.rowx, h.lg.ge, h.lg.ni⟩, h.row, h.mch, h.mdi, h.own, h.qm, h.qd, h.md', h.cq, h.ql, h.mcl, h.mdl⟩
omit [Thing Y] in
theorem two_all {X : World → List Nat → Prop} {p : Option Addr} {S : List Rec} (h : Two X (AndZ Y (AllZ p S)) lo L w) : ∃ vs, SlAt w p S.length 1 vs ∧ (0 < S.length → ∀ b o, p = some ⟨b, o, none⟩ → b ∉ L) ∧ ∀ (i : Nat) r, S[i]? = some r → ∃ b off c, vs[i]? = some (.slice (some ⟨b, off, none⟩) r.length c) ∧ SlAt w (some ⟨b, off, none⟩) r.length 513 (chsV r) ∧ b ∉ L := by
  obtain ⟨⟨B, _, h1, ⟨C1, C2, rfl, h2, ⟨a1, vs, a2, a3, a4⟩⟩, h3, h4⟩, h5, h6⟩ := h
  refine ⟨vs, a2, fun h0 b o e => (h4 b (List.mem_append_right _ (a3 h0 b o e))).2, fun i r hr => ?_⟩
  obtain ⟨b, off, c, e1, e2, e3⟩ := a4 i r hr
  exact ⟨b, off, c, e1, e2, (h4 b (List.mem_append_right _ e3)).2⟩
set_option maxRecDepth 20000 in
set_option maxHeartbeats 2000000 in
theorem openOk (h : Two (DZ g D) Y lo L w) (n fr : Nat) (hc : ¬ cntP D.V.length n < 4) (hf : 2 ≤ fr ∧ fr ≤ 100) (he : openE D n = 0) (hsh : shortD D 60000) (hok : saveE D (hdC (readD D 0) + 1) (hdS (readD D 0)) = true) :
    Calls Tryz.prog 18 [.pointer (some ⟨g, 0, none⟩), .int .i64 (n : Int), .int .i64 (fr : Int)].toArray w (Ret fun v w' => (((openR D n fr).1 ≠ 0 ∧ v = noPool (openR D n fr).1 ∧ Two (DZ g (openR D n fr).2.D) Y lo L w') ∨
      ((openR D n fr).1 = 0 ∧ ∃ x q mc md cv, v = .tuple #[.pointer (some ⟨q, 0, none⟩), .int .i64 0] ∧ PlAt g x q mc md cv cv Y lo L (openR D n fr).2 w')) ∧ LoL lo L w w') := by
  have hLL := LoL.refl lo L w
  have hml : maxLen = 9223372036854775807 := by decide
  have hfit := cntP_fit (Nat.not_lt.1 hc)
  have hM := mayP h (n : Int) ⟨by omega, by omega⟩
  rw [if_neg hc] at hM
  have hDk := (tOk h).1
  have hpok := openP0_ok hDk he (Nat.not_lt.1 hc) hf.1 hf.2
  have hrec := recsOf_all (G := headG D n) hDk (by rw [headG, Int.toNat_natCast]; dsimp only; omega)
  have hshP : shortD (openP0 D n fr).D 70000 := by
    show shortD (saveD _ _ _) 70000
    unfold saveE at hok
    rw [Bool.and_eq_true] at hok
    unfold saveD
    rw [if_pos hok.1]
    exact short_of (flush_short hok.2) (by omega)
  have hPn := openP0_n D n fr
  have hVl : (openP0 D n fr).D.V.length = D.V.length := saveD_len _ _ _
  obtain ⟨S, hS⟩ : ∃ S, recsOf D (headG D n) = S := ⟨_, rfl⟩
  have hO := (openYes h n he (short_of hsh (by omega))).to fun v w' ⟨ok, D2, C, s, S2, e1, e2, e3, e4, e5, k, hh⟩ => (show ∃ x p c, v = Value.tuple #[Value.pointer (some ⟨x, 0, none⟩), Value.slice p S.length c, Value.int .i64 0] ∧ S.length ≤ c ∧ LgAt g x (AndZ Y (AllZ p S)) lo L (openP0 D n fr).D (openP0 D n fr).G w' ∧ LoL lo L w w' from by
    subst e3 e4
    rw [hok] at e1
    subst e1
    have e6 : S2 = S := by rw [← e5, hS]
    subst e6
    rcases hh with ⟨h2, _⟩ | ⟨_, x, p, c, h2, h3, h4⟩
    · cases h2
    · refine ⟨x, p, c, h2, h3, ?_, k⟩
      have eD : (openP0 D n fr).D = D2 := by rw [← e2]; rfl
      have eG : (openP0 D n fr).G = ⟨hdC (readD D 0) + 1, hdS (readD D 0), n, S2.length, atS S2, false⟩ := by unfold openP0; dsimp only; rw [hS]
      rw [eD, eG]
      exact h4)
  obtain ⟨N, hN⟩ : ∃ N, cntP D.V.length n = N := ⟨_, rfl⟩
  have hdi0 : (openP0 D n fr).di = addAll N S := by unfold openP0; dsimp only; rw [hS, hN]
  have hRe : openR D n fr = if S.length = 0 then (0, openP0 D n fr) else checkR (openP0 D n fr) := by unfold openR; rw [hS]
  have hP1 : (openP0 D n fr).fr = fr ∧ (openP0 D n fr).ch = noP ∧ (openP0 D n fr).cl = [] ∧ (openP0 D n fr).dead = false ∧ (openP0 D n fr).G.size = n := ⟨rfl, rfl, rfl, rfl, rfl⟩
  rw [hN] at hPn
  rw [hS] at hrec
  have hSl : S.length ≤ 4000 := by
    have h1 := hrec.1
    have h2 := hrec.2.1
    rw [show (headG D n).size = n by rw [headG, Int.toNat_natCast]] at h1
    omega
  obtain ⟨Z, hZ⟩ : ∃ Z, openR D n fr = Z := ⟨_, rfl⟩
  rw [hZ] at hRe ⊢
  generalize openP0 D n fr = P0 at *
  obtain ⟨p1, p2, p3, p4, p5⟩ := hP1
  have hNl : N ≤ 2048 := by
    have h1 := hDk.n
    have h2 := cntP_le D.V.length n
    omega
  have hcnt : ∀ c x q mc md p L' w', PlAt g x q mc md (.slice none 0 0) (.slice none 0 0) (AndZ Y (AllZ p S)) lo L' { P0 with di := c } w' → Calls Tryz.prog 28 [.pointer (some ⟨g, 0, none⟩), .int .i64 (n : Int)].toArray w' (Ret fun v w'' => v = .int .i64 (N : Int) ∧ w' = w'') := fun c x q mc md p L' w' h' => by
    have h1 := countP h'.lg.fst (n : Int) ⟨by omega, by omega⟩
    dsimp only at h1
    rw [hVl, hN] at h1
    exact h1
  have hlo := h.lo
  have hLt := h.lt
  refine calls_W (fn := Tryz.f18) (rs := [.tmp 6, .tmp 7]) (n := 85) Tryz.func18 rfl rfl Tryz.ntmps18 (by kernel_rfl) rfl ?_
  refine W_seq ?_
  refine W_region ?_
  refine WR_val rfl (rn_assign) ?_
  refine WR_val rfl (rn_assign) ?_
  refine WR_nil ?_
  refine thenN ?_
  refine W_seq ?_
  refine W_seq ?_
  refine W_region ?_
  refine WR_val rfl (rn_move) ?_
  refine WR_val rfl (rn_move) ?_
  refine WR_ent rfl (rn_call (by kernel_rfl) rfl) (hM) ?_
  rintro _ _ ⟨rfl, rfl⟩
  refine WR_val rfl (rn_assign) ?_
  refine WR_nil ?_
  refine thenN ?_
  refine W_seq ?_
  refine W_region ?_
  refine WR_val rfl (rn_move) ?_
  refine WR_val rfl (rn_neq rfl rfl) ?_
  refine WR_nil ?_
  refine thenN ?_
  refine W_fp rfl ((by simp)) ?_
  refine W_skip ?_
  refine thenN ?_
  refine W_seq ?_
  refine W_seq ?_
  refine W_region ?_
  refine WR_val rfl (rn_move) ?_
  refine WR_val rfl (rn_lss rfl rfl) ?_
  refine WR_val rfl (rn_move) ?_
  refine WR_fp 26 rfl ((by omega)) ?_
  refine WR_yes rfl ?_
  refine WR_val rfl (rn_move) ?_
  refine WR_yes rfl ?_
  refine WR_val rfl (rn_gtr rfl rfl) ?_
  refine WR_val rfl (rn_pick_f rfl) ?_
  refine WR_nil ?_
  refine thenN ?_
  refine W_fp rfl ((by omega)) ?_
  refine W_skip ?_
  refine thenN ?_
  refine W_seq ?_
  refine W_region ?_
  refine WR_val rfl (rn_move) ?_
  refine WR_val rfl (rn_move) ?_
  refine WR_ent rfl (rn_call (by kernel_rfl) rfl) (hO) ?_
  rintro _ w33 ⟨x, p, cp, rfl, hcp, hG, hb33⟩
  replace hLL := hLL.ll hb33 (by first | (intro b hb; exact hb) | (intro b hb; simp [hb]; done) | simp)
  refine WR_val rfl (rn_move) ?_
  refine WR_val rfl (rn_extract rfl rfl) ?_
  refine WR_val rfl (rn_extract rfl rfl) ?_
  refine WR_val rfl (rn_extract rfl rfl) ?_
  refine WR_val rfl (rn_assign) ?_
  refine WR_val rfl (rn_assign) ?_
  refine WR_val rfl (rn_assign) ?_
  refine WR_nil ?_
  refine thenN ?_
  refine W_seq ?_
  refine W_seq ?_
  refine W_region ?_
  refine WR_val rfl (rn_move) ?_
  refine WR_val rfl (rn_neq rfl rfl) ?_
  refine WR_nil ?_
  refine thenN ?_
  refine W_fp rfl ((by simp)) ?_
  refine W_skip ?_
  refine thenN ?_
  refine W_seq ?_
  refine W_region ?_
  refine WR_val rfl (rn_move) ?_
  refine WR_val rfl (rn_move) ?_
  refine WR_val rfl (rn_move) ?_
  refine WR_val rfl (rn_move) ?_
  have hs33 := hLL.size
  refine WR_mk rfl (mk_makeMap (k := 3) N (fun m44 w44 hgm44 hm44 hb44 => ?_))
  replace hG := hG.newc hb44 hgm44 hm44.lt
  have l44 := hm44.lt
  replace hLL := hLL.new hb44
  refine WR_mk rfl (mk_makeMap (k := 3) N (fun m45 w45 hgm45 hm45 hb45 => ?_))
  replace hG := hG.newc hb45 hgm45 hm45.lt
  have l45 := hm45.lt
  have b45 := hb45.size
  replace hLL := hLL.new hb45
  replace hm44 := hm44.new hb45
  refine WR_val rfl (rn_built6 (.pointer (some ⟨g, 0, none⟩)) (.pointer (some ⟨x, 0, none⟩)) (.int .i64 (n : Int)) (.int .i64 (fr : Int)) (.map (some m44)) (.map (some m45)) [.pointer (some ⟨g, 0, none⟩), .pointer (some ⟨x, 0, none⟩), .int .i64 (n : Int), .int .i64 (fr : Int), .map (some m44), .map (some m45), .slice none 0 0, .bool false] rfl rfl rfl rfl rfl rfl (by kernel_rfl)) ?_
  refine WR_mk rfl (mk_box ([.pointer (some ⟨g, 0, none⟩), .pointer (some ⟨x, 0, none⟩), .int .i64 (n : Int), .int .i64 (fr : Int), .map (some m44), .map (some m45), .slice none 0 0, .bool false]) rfl (fun g47 w47 hg47 hr47 hb47 => ?_))
  have lt_m44_g47 : m44 < g47 := Nat.lt_of_lt_of_le hm44.lt hg47
  have lt_m45_g47 : m45 < g47 := Nat.lt_of_lt_of_le hm45.lt hg47
  replace hLL := hLL.new hb47
  replace hm44 := hm44.new hb47
  replace hG := hG.newc hb47 hg47 hr47.lt
  replace hm45 := hm45.new hb47
  refine WR_val rfl (rn_assign) ?_
  refine WR_nil ?_
  refine thenN ?_
  refine W_seq ?_
  refine W_seq ?_
  refine W_region ?_
  refine WR_val rfl (rn_move) ?_
  refine WR_val rfl (rn_lenSl (e := 52) (sz := 1) (by kernel_rfl) rfl rfl) ?_
  refine WR_val rfl (rn_move) ?_
  refine WR_nil ?_
  refine thenN ?_
  refine W_block ?_
  have hN0 : ∀ c, ({ P0 with di := c } : Pl).n = N := fun _ => hPn
  have a1 : row w47 g47 (plV g x P0.G.size P0.fr m44 m45 (.slice none 0 0) P0.dead) 54 := by rw [plV, p1, p4, p5]; exact hr47
  have a2 : MapAt Tryz.prog 3 w47 m44 ({ P0 with di := addAll N (S.take 0) } : Pl).n (mapV P0.ch) := by rw [hN0, p2]; exact hm44
  have a3 : MapAt Tryz.prog 3 w47 m45 ({ P0 with di := addAll N (S.take 0) } : Pl).n (mapV (addAll N (S.take 0))) := by rw [hN0]; exact hm45
  have a4 : ownsAt w47 0 73 513 (.slice none 0 0) P0.cl.length (chsV P0.cl) := by rw [p3]; exact ownsAt_nil _ _ _ _
  have hP : PlAt g x g47 m44 m45 (.slice none 0 0) (.slice none 0 0) (AndZ Y (AllZ p S)) lo L { P0 with di := addAll N (S.take 0) } w47 :=
    ⟨hG.weak (fun b hb => by
      simp only [Value.ownBlock, Option.toList_none, List.nil_append, List.mem_cons] at hb ⊢
      rcases hb with hb | hb | hb | hb
      · exact .inl hb
      · exact .inr (.inr (.inl hb))
      · exact .inr (.inl hb)
      · exact .inr (.inr (.inr hb))), a1, a2, a3, a4, by omega, by omega, by omega, (fun b hb => nomatch hb), ⟨by omega, fun hm => by have := hLt _ hm; omega⟩, ⟨by omega, fun hm => by have := hLt _ hm; omega⟩, ⟨by omega, fun hm => by have := hLt _ hm; omega⟩⟩
  have hTA := two_all hP.lg.two
  obtain ⟨vs, hvs, hpL, hall⟩ := hTA
  have hK := KpB.refl [m45] w47
  clear hG
  refine W_loop (α := Nat) 0 (fun i => [(50, .int .i64 (i : Nat)), (49, .int .i64 (S.length : Int)), (48, .slice p S.length cp), (10, .slice p S.length cp), (12, .pointer (some ⟨g47, 0, none⟩)), (0, .pointer (some ⟨g, 0, none⟩)), (1, .int .i64 (n : Int))])
    (fun i w' => i ≤ S.length ∧ PlAt g x g47 m44 m45 (.slice none 0 0) (.slice none 0 0) (AndZ Y (AllZ p S)) lo L { P0 with di := addAll N (S.take i) } w' ∧ KpB [m45] w47 w' ∧ LoL lo L w w') (fun i => S.length - i)
    ⟨rfl, rfl, rfl, rfl, rfl, rfl, rfl, rfl⟩ ⟨Nat.zero_le _, hP, hK, hLL⟩ ?_
  clear hP hK hLL
  rintro i f wr ⟨hi, hP, hK, hLL⟩
  refine W_seq ?_
  refine W_region ?_
  refine WR_val rfl (rn_lss rfl rfl) ?_
  refine WR_nil ?_
  refine thenN ?_
  refine W_seq ?_
  refine W_ifp rfl (fun hlt => ?_) (fun hlt => ?_)
  ·
    refine W_skip ?_
    refine thenN ?_
    refine W_seq ?_
    refine W_block ?_
    refine W_seq ?_
    have hob : ∃ r, S[i]? = some r := ⟨_, List.getElem?_eq_getElem (by omega)⟩
    obtain ⟨r, hr⟩ := hob
    have hrk := hrec.2.2 r (List.mem_of_getElem? hr)
    have hal := hall i r hr
    obtain ⟨gb, ob, cb, hvi, hrs, hgbL⟩ := hal
    have hobg := hvs.some (by omega)
    obtain ⟨gp, op, hgp, hgpl⟩ := hobg
    subst hgp
    have hgpm : gp ∉ [m45] := fun hm => hpL (by omega) gp op rfl (by rw [List.mem_singleton.1 hm]; simp)
    have hgbm : gb ∉ [m45] := fun hm => hgbL (by rw [List.mem_singleton.1 hm]; simp)
    have hvsw := hvs.kpd hK.k (fun b o e => by cases e; exact hgpm)
    have haa := addAll_snoc hr N
    have hr60 := hrk.l60
    refine W_region ?_
    refine WR_val rfl (rn_indexSl1 (e := 52) (by kernel_rfl) rfl rfl (i) (by omega) (by omega)) ?_
    refine WR_val rfl (rn_load rfl (Ld.sl1 hvsw (by kernel_rfl) hvi)) ?_
    refine WR_val rfl (rn_assign) ?_
    refine WR_nil ?_
    refine thenN ?_
    refine W_seq ?_
    refine W_region ?_
    refine WR_val rfl (rn_move) ?_
    refine WR_val rfl (rn_lenSl (e := 73) (sz := 513) (by kernel_rfl) rfl rfl) ?_
    refine WR_val rfl (rn_move) ?_
    refine WR_nil ?_
    refine thenN ?_
    refine W_block ?_
    refine W_loop (α := Nat) 0 (fun k => [(56, .int .i64 (k : Nat)), (55, .int .i64 (r.length : Int)), (54, .slice (some ⟨gb, ob, none⟩) r.length cb), (50, .int .i64 (i : Nat)), (49, .int .i64 (S.length : Int)), (48, .slice (some ⟨gp, op, none⟩) S.length cp), (10, .slice (some ⟨gp, op, none⟩) S.length cp), (12, .pointer (some ⟨g47, 0, none⟩)), (0, .pointer (some ⟨g, 0, none⟩)), (1, .int .i64 (n : Int))])
      (fun k w' => k ≤ r.length ∧ PlAt g x g47 m44 m45 (.slice none 0 0) (.slice none 0 0) (AndZ Y (AllZ (some ⟨gp, op, none⟩) S)) lo L { P0 with di := addDi N (addAll N (S.take i)) (r.take k) } w' ∧ KpB [m45] w47 w' ∧ LoL lo L w w') (fun k => r.length - k)
      ⟨rfl, rfl, rfl, rfl, rfl, rfl, rfl, rfl, rfl, rfl, rfl⟩ ⟨Nat.zero_le _, hP, hK, hLL⟩ ?_
    clear hP hK hLL hvsw
    rintro k f2 w2 ⟨hk, hP, hK, hLL⟩
    refine W_seq ?_
    refine W_region ?_
    refine WR_val rfl (rn_lss rfl rfl) ?_
    refine WR_nil ?_
    refine thenN ?_
    refine W_seq ?_
    refine W_ifp rfl (fun hlt2 => ?_) (fun hlt2 => ?_)
    ·
      refine W_skip ?_
      refine thenN ?_
      refine W_seq ?_
      refine W_block ?_
      refine W_seq ?_
      have hob : ∃ ch, r[k]? = some ch := ⟨_, List.getElem?_eq_getElem (by omega)⟩
      obtain ⟨ch, hch⟩ := hob
      have hcm := List.mem_of_getElem? hch
      have hXl := hrk.ok ch hcm
      have hnum := hrk.num ch hcm
      have hchl : (chV ch).length = 513 := chV_len hXl
      have hch1 := chV_one ch
      have hrsw := hrs.kpd hK.k (fun b o e => by cases e; exact hgbm)
      have had := addDi_snoc hch N (addAll N (S.take i))
      have hKs := hK.k.size
      have hLs := hLL.size
      refine W_region ?_
      refine WR_val rfl (rn_indexSl (e := 73) (sz := 513) (by kernel_rfl) rfl rfl (k) (by omega) (by omega)) ?_
      refine WR_val rfl (rn_load rfl (ld_ch hrsw hrk.ok hch)) ?_
      refine WR_mk rfl (mk_alloc (([Value.int .i64 0]) ++ (List.replicate 512 (Value.int .u8 0))) (by kernel_rfl) (fun g16 w16 hg16 hr16 hb16 => ?_))
      replace hLL := hLL.new hb16
      replace hP := hP.newc hb16 hg16 hr16.lt
      replace hK := hK.new hb16
      refine WR_sk rfl (sk_storeA 513 (chV ch) rfl rfl hr16 (by kernel_rfl) (by first | assumption | (simp; done) | (simp [bv_length, *]; done)) (by first | assumption | (simp; done) | (simp [bv_length, *]; done) | rfl) (by first | exact bv_one _ | assumption | (simp [Value.oneCell']; done)) (fun w901 hr16 ho901 => ?_))
      replace hLL := hLL.only ho901 (by first | omega | (right; exact ⟨by omega, by assumption⟩))
      replace hP := hP.only ho901 (by first | (right; simp; done) | (left; omega))
      replace hK := hK.only ho901 (by first | (simp; done) | (right; omega))
      refine WR_nil ?_
      refine thenN ?_
      refine W_seq ?_
      refine W_draw' [] (by kernel_rfl) ?_
      intro w902 hb902 hS902
      replace hLL := hLL.new hb902
      replace hP := hP.new hb902
      replace hK := hK.new hb902
      replace hr16 := hr16.new hb902
      have hLL_d902 := hLL
      have hP_d902 := hP
      have hK_d902 := hK
      have hr16_d902 := hr16
      refine WA_take 0 (by kernel_rfl) rfl (fun _ _ => rn_fieldAddr (off := 0) (by kernel_rfl) rfl) ?_
      refine WA_take 1 (by kernel_rfl) rfl (fun w' hS' => rn_load rfl (Ld.row1 (hr16_d902.kpd hS' (by first | (simp; done) | (simp; omega) | (simp [*]; done) | exact notLL (Or.inl (by omega)) | exact notLL (Or.inr (by simp)) | exact fun g hm => Nat.le_trans (by omega) (inLL hm).1 | (intro b o e; cases e; exact notLL (Or.inl (by omega))) | (intro b hm; have := (hu.lt b (Option.mem_toList.1 hm)).1; omega) | (intro b o e; cases e; intro hm; have := (hu.lt _ (Option.mem_toList.1 hm)).1; omega))) (by kernel_rfl) rfl)) ?_
      refine WA_take 2 (by kernel_rfl) rfl (fun _ _ => rn_move) ?_
      refine WA_take 3 (by kernel_rfl) rfl (fun _ _ => rn_move) ?_
      refine WA_call 4 (by kernel_rfl) rfl (fun _ => rn_call (by kernel_rfl) rfl) (fun w' hS' => hcnt _ _ _ _ _ _ _ w' (hP_d902.kpd hS' (by first | (simp; done) | (simp; omega) | (simp [*]; done) | exact notLL (Or.inl (by omega)) | exact notLL (Or.inr (by simp)) | exact fun g hm => Nat.le_trans (by omega) (inLL hm).1 | (intro b o e; cases e; exact notLL (Or.inl (by omega))) | (intro b hm; have := (hu.lt b (Option.mem_toList.1 hm)).1; omega) | (intro b o e; cases e; intro hm; have := (hu.lt _ (Option.mem_toList.1 hm)).1; omega)))) ?_
      refine WA_take 5 (by kernel_rfl) rfl (fun _ _ => rn_lss rfl rfl) ?_
      refine WA_done (by kernel_rfl) ?_
      refine thenN ?_
      refine W_ifp rfl (fun hin => ?_) (fun hin => ?_)
      ·
        have hin2 : ch.num < (N : Int) := hin
        rw [if_pos hin2] at had
        have hobn : ∃ j : Nat, ch.num = j ∧ j < N := ⟨ch.num.toNat, by omega, by omega⟩
        obtain ⟨j, hj, hjN⟩ := hobn
        have hjt : ch.num.toNat = j := by omega
        rw [hjt] at had
        have hq := hP.row
        unfold plV at hq
        have hd : MapAt Tryz.prog 3 w902 m45 N (mapV (addDi N (addAll N (S.take i)) (r.take k))) := by
          have h1 := hP.mdi
          have e : ({ P0 with di := addDi N (addAll N (S.take i)) (r.take k) } : Pl).n = N := hPn
          rw [e] at h1
          exact h1
        have hg16 : g16 ≠ m45 := fun e => hP.mdl.2 (by rw [e]; simp)
        have hqd := hP.qd
        have hobm := hP.mdl
        obtain ⟨hmdl, hmdL⟩ := hobm
        have hmdL2 : m45 ∉ L := fun hm => hmdL (List.mem_cons_of_mem _ hm)
        refine W_draw' [m45] (by kernel_rfl) ?_
        intro w903 hb903 hS903
        replace hLL := hLL.new hb903
        replace hP := hP.new hb903
        replace hK := hK.new hb903
        replace hr16 := hr16.new hb903
        replace hq := hq.new hb903
        replace hd := hd.new hb903
        have hLL_d903 := hLL
        have hP_d903 := hP
        have hK_d903 := hK
        have hr16_d903 := hr16
        have hq_d903 := hq
        have hd_d903 := hd
        refine WA_take 0 (by kernel_rfl) rfl (fun _ _ => rn_move) ?_
        refine WA_take 1 (by kernel_rfl) rfl (fun _ _ => rn_nilCheckP rfl) ?_
        refine WA_take 2 (by kernel_rfl) rfl (fun _ _ => rn_fieldAddr (off := 5) (by kernel_rfl) rfl) ?_
        refine WA_take 3 (by kernel_rfl) rfl (fun w' hS' => rn_load rfl (Ld.row1 (hq_d903.kpd hS' (by first | (simp; done) | (simp; omega) | (simp [*]; done) | exact notLL (Or.inl (by omega)) | exact notLL (Or.inr (by simp)) | exact fun g hm => Nat.le_trans (by omega) (inLL hm).1 | (intro b o e; cases e; exact notLL (Or.inl (by omega))) | (intro b hm; have := (hu.lt b (Option.mem_toList.1 hm)).1; omega) | (intro b o e; cases e; intro hm; have := (hu.lt _ (Option.mem_toList.1 hm)).1; omega))) (by kernel_rfl) rfl)) ?_
        refine WA_take 4 (by kernel_rfl) rfl (fun _ _ => rn_fieldAddr (off := 0) (by kernel_rfl) rfl) ?_
        refine WA_take 5 (by kernel_rfl) rfl (fun w' hS' => rn_load rfl (Ld.row1 (hr16_d903.kpd hS' (by first | (simp; done) | (simp; omega) | (simp [*]; done) | exact notLL (Or.inl (by omega)) | exact notLL (Or.inr (by simp)) | exact fun g hm => Nat.le_trans (by omega) (inLL hm).1 | (intro b o e; cases e; exact notLL (Or.inl (by omega))) | (intro b hm; have := (hu.lt b (Option.mem_toList.1 hm)).1; omega) | (intro b o e; cases e; intro hm; have := (hu.lt _ (Option.mem_toList.1 hm)).1; omega))) (by kernel_rfl) rfl)) ?_
        refine WA_take 6 (by kernel_rfl) rfl (fun _ _ => rn_fieldAddr (off := 1) (by kernel_rfl) rfl) ?_
        refine WA_take 7 (by kernel_rfl) rfl (fun w' hS' => rn_load rfl (ld_chp (hr16_d903.kpd hS' (by first | (simp; done) | (simp; omega) | (simp [*]; done) | exact notLL (Or.inl (by omega)) | exact notLL (Or.inr (by simp)) | exact fun g hm => Nat.le_trans (by omega) (inLL hm).1 | (intro b o e; cases e; exact notLL (Or.inl (by omega))) | (intro b hm; have := (hu.lt b (Option.mem_toList.1 hm)).1; omega) | (intro b o e; cases e; intro hm; have := (hu.lt _ (Option.mem_toList.1 hm)).1; omega))) hXl)) ?_
        refine WA_one 8 (by kernel_rfl) ?_
        refine WO_sk rfl rfl (sk_mapUpd (k := 3) (e := 37) (.agg (bv ch.page).toArray) (by kernel_rfl) (by kernel_rfl) hd rfl rfl rfl (j) (by first | rfl | omega) (by omega) (by omega) (fun w905 hd ho905 => ?_))
        have hS904 := hS903.add1 ho905 (by first | (left; omega) | (right; simp; done) | (right; simp; omega))
        refine ⟨hS904, ?_⟩
        replace hLL := hLL.only ho905 (by first | omega | (right; exact ⟨by omega, by assumption⟩))
        replace hK := hK.only ho905 (by first | (simp; done) | (right; omega))
        replace hr16 := hr16.only ho905 (by omega)
        replace hq := hq.only ho905 (Nat.ne_of_gt lt_m45_g47)
        rw [mapV_some, ← had] at hd
        have hPe : MapAt Tryz.prog 3 w905 m45 P0.n (mapV (addDi N (addAll N (S.take i)) (r.take (k + 1)))) := by rw [hPn]; exact hd
        have hP9 := hP.setDi hPe ho905
        refine WA_done (by kernel_rfl) ?_
        refine blockN ?_
        refine thenN ?_
        refine W_region ?_
        refine WR_val rfl (rn_add rfl rfl (Coup.w64 (by omega))) ?_
        refine WR_val rfl (rn_move) ?_
        refine WR_nil ?_
        refine loopN ⟨k + 1, by omega, ⟨by go_num, rfl, rfl, rfl, rfl, rfl, rfl, rfl, rfl, rfl, rfl⟩, by omega, hP9.weak (fun b hb => List.mem_cons_of_mem _ hb), hK, hLL⟩
      ·
        have hin2 : ¬ ch.num < (N : Int) := hin
        rw [if_neg hin2] at had
        refine W_skip ?_
        refine blockN ?_
        refine thenN ?_
        refine W_region ?_
        refine WR_val rfl (rn_add rfl rfl (Coup.w64 (by omega))) ?_
        refine WR_val rfl (rn_move) ?_
        refine WR_nil ?_
        refine loopN ⟨k + 1, by omega, ⟨by go_num, rfl, rfl, rfl, rfl, rfl, rfl, rfl, rfl, rfl, rfl⟩, by omega, by rw [had]; exact hP.weak (fun b hb => List.mem_cons_of_mem _ hb), hK, hLL⟩
    ·
      have hkr : k = r.length := by omega
      subst hkr
      rw [List.take_length] at hP
      rw [← haa] at hP
      refine W_exit ?_
      refine thenX ?_
      refine loopX ?_
      refine blockX ?_
      refine blockN ?_
      refine thenN ?_
      refine W_region ?_
      refine WR_val rfl (rn_add rfl rfl (Coup.w64 (by omega))) ?_
      refine WR_val rfl (rn_move) ?_
      refine WR_nil ?_
      refine loopN ⟨i + 1, by omega, ⟨by go_num, rfl, rfl, rfl, rfl, rfl, rfl, rfl⟩, by omega, hP, hK, hLL⟩
  ·
    have hiS : i = S.length := by omega
    subst hiS
    rw [List.take_length, ← hdi0] at hP
    replace hP : PlAt g x g47 m44 m45 (.slice none 0 0) (.slice none 0 0) (AndZ Y (AllZ p S)) lo L P0 wr := hP
    have hck := checkP hP hpok p4 hshP
    refine W_exit ?_
    refine thenX ?_
    refine loopX ?_
    refine blockX ?_
    refine thenN ?_
    refine W_seq ?_
    refine W_seq ?_
    refine W_region ?_
    refine WR_val rfl (rn_move) ?_
    refine WR_val rfl (rn_lenSl (e := 52) (sz := 1) (by kernel_rfl) rfl rfl) ?_
    refine WR_val rfl (rn_gtr rfl rfl) ?_
    refine WR_nil ?_
    refine thenN ?_
    refine W_ifp rfl (fun hgt => ?_) (fun hgt => ?_)
    ·
      refine W_seq ?_
      rw [if_neg (by omega)] at hRe
      rw [← hRe] at hck
      refine W_region ?_
      refine WR_val rfl (rn_move) ?_
      refine WR_ent rfl (rn_call (by kernel_rfl) rfl) (hck) ?_
      rintro _ w80 ⟨rfl, hP, hb80⟩
      replace hLL := hLL.ll hb80 (by first | (intro b hb; exact hb) | (intro b hb; simp [hb]; done) | simp)
      refine WR_val rfl (rn_assign) ?_
      refine WR_nil ?_
      refine thenN ?_
      refine W_seq ?_
      refine W_region ?_
      refine WR_val rfl (rn_move) ?_
      refine WR_val rfl (rn_neq rfl rfl) ?_
      refine WR_nil ?_
      refine thenN ?_
      refine W_ifp rfl (fun hne => ?_) (fun hne => ?_)
      ·
        refine W_seq ?_
        refine W_region ?_
        refine WR_val rfl (rn_move) ?_
        refine WR_val rfl (rn_assign) ?_
        refine WR_val rfl (rn_assign) ?_
        refine WR_nil ?_
        refine thenN ?_
        refine W_ret ?_
        refine thenR ?_
        refine ret_ret [_, _] ⟨rfl, rfl, trivial⟩ ?_
        have hne2 : Z.1 ≠ 0 := hne
        refine ⟨.inl ⟨hne2, rfl, ?_⟩, hLL⟩
        exact (two_left hP.lg.fst).weak fun b hb => by simp [hb]
      ·
        have hne2 : Z.1 = 0 := by simpa using hne
        refine W_skip ?_
        refine thenN ?_
        refine W_seq ?_
        refine W_region ?_
        refine WR_val rfl (rn_move) ?_
        refine WR_val rfl (rn_assign) ?_
        refine WR_val rfl (rn_assign) ?_
        refine WR_nil ?_
        refine thenN ?_
        refine W_ret ?_
        refine ret_ret [_, _] ⟨rfl, rfl, trivial⟩ ?_
        exact ⟨.inr ⟨hne2, _, _, _, _, _, rfl, hP.left⟩, hLL⟩
    ·
      rw [if_pos (by omega)] at hRe
      subst hRe
      refine W_skip ?_
      refine thenN ?_
      refine W_seq ?_
      refine W_region ?_
      refine WR_val rfl (rn_move) ?_
      refine WR_val rfl (rn_assign) ?_
      refine WR_val rfl (rn_assign) ?_
      refine WR_nil ?_
      refine thenN ?_
      refine W_ret ?_
      refine ret_ret [_, _] ⟨rfl, rfl, trivial⟩ ?_
      exact ⟨.inr ⟨rfl, _, _, _, _, _, rfl, hP.left⟩, hLL⟩
end
end Go.Proofs.YtielfpkjoidomaaGreat
namespace Go.Proofs.YtielfpkjoidomaaGreat
open Go Go.RowKit Coup
end Go.Proofs.YtielfpkjoidomaaGreat
namespace Coup
open Go Go.RowKit
section
variable {P : Program} {ρ : Env} {w : World} {d : Option Nat} {ty : TypeId} {pos : String} {af : Array Edge} {gd : Option (Nat × Bool)}
def numBytesT (P : Program) (t : Nat) (k : IntKind) (n : Nat) : Bool :=
  (match P.underlying t with
   | some (.struct fs) => (match fs.toList with
     | [f0, f1] => (f0.name != "_") && (f1.name != "_") && Nat.beq f0.offset 0 && Nat.beq f1.offset 1 && intT P f0.type k && byteArr P f1.type n && (match P.info? f1.type with | some i => Nat.beq i.size n | none => false) && (match P.underlying f1.type with | some (.array _ _) => true | _ => false)
     | _ => false)
   | _ => false) && !P.eqGuardType P.depth t && !P.stoodInHeld t
end
end Coup
namespace Go.Proofs.YtielfpkjoidomaaGreat
open Go Go.RowKit Coup
end Go.Proofs.YtielfpkjoidomaaGreat
namespace Go.Proofs.YtielfpkjoidomaaGreat
open Go Go.RowKit Coup
def AllR (w : World) (p : Option Addr) (S : List Rec) : Prop := ∃ vs, SlAt w p S.length 1 vs ∧ ∀ (i : Nat) (r : Rec), S[i]? = some r → ∃ q c, vs[i]? = some (.slice q r.length c) ∧ SlAt w q r.length 513 (chsV r)
theorem AllZ.r {w : World} {p : Option Addr} {S : List Rec} {C : List Nat} (h : AllZ p S w C) : AllR w p S := by
  obtain ⟨_, vs, h2, _, h4⟩ := h
  exact ⟨vs, h2, fun i r hr => let ⟨b, off, c, h5, h6, _⟩ := h4 i r hr; ⟨_, c, h5, h6⟩⟩
theorem AllR.new {w w' : World} {p : Option Addr} {S : List Rec} (h : AllR w p S) (hb : Below w.heap.size w w') : AllR w' p S := by
  obtain ⟨vs, h2, h4⟩ := h
  exact ⟨vs, h2.new hb, fun i r hr => let ⟨q, c, h5, h6⟩ := h4 i r hr; ⟨q, c, h5, h6.new hb⟩⟩
def allOk (S : List Rec) : Prop := ∀ r ∈ S, chsOk r ∧ r.length ≤ 1000000
end Go.Proofs.YtielfpkjoidomaaGreat
namespace Go.Proofs.YtielfpkjoidomaaGreat
open Go Go.RowKit Coup
end Go.Proofs.YtielfpkjoidomaaGreat
namespace Coup
open Go Go.RowKit
section
variable {P : Program} {ρ : Env} {w : World} {d : Option Nat} {ty : TypeId} {pos : String} {af : Array Edge} {gd : Option (Nat × Bool)} {K : Value → World → Prop}
end
end Coup
namespace Go.Proofs.YtielfpkjoidomaaGreat
open Go Go.RowKit Coup
end Go.Proofs.YtielfpkjoidomaaGreat
namespace Go.Proofs.YtielfpkjoidomaaGreat
open Go Go.RowKit Coup
def fillB (b : List UInt8) (i : Nat) : List UInt8 := (List.range 512).map fun j => if j < i then b.getD (j % b.length) 0 else 0
def pageB (b : List UInt8) : List UInt8 := if 0 < b.length then fillB b 512 else fillB b 0
theorem fillB_len (b : List UInt8) (i : Nat) : (fillB b i).length = 512 := by simp [fillB]
theorem pageB_len (b : List UInt8) : (pageB b).length = 512 := by unfold pageB; split <;> exact fillB_len ..
theorem fillB_set (b : List UInt8) {i : Nat} (h : i < 512) : (bv (fillB b i)).set i (byteV (b.getD (i % b.length) 0)) = bv (fillB b (i + 1)) := by
  suffices hs : (fillB b i).set i (b.getD (i % b.length) 0) = fillB b (i + 1) by rw [← hs]; exact set_bv _ _ _
  refine List.ext_getElem? fun j => ?_
  rw [List.getElem?_set, fillB_len]
  by_cases e : i = j
  · subst e
    rw [if_pos rfl, if_pos h, fillB, List.getElem?_map, List.getElem?_range h]
    simp
  · rw [if_neg e, fillB, fillB, List.getElem?_map, List.getElem?_map]
    by_cases hj : j < 512
    · rw [List.getElem?_range hj]
      simp only [Option.map_some]
      congr 1
      by_cases hji : j < i
      · rw [if_pos hji, if_pos (by omega)]
      · rw [if_neg hji, if_neg (by omega)]
    · rw [List.getElem?_eq_none (by rw [List.length_range]; omega)]; rfl
theorem fillB_zero (b : List UInt8) : bv (fillB b 0) = List.replicate 512 (byteV 0) := by
  refine List.eq_replicate_iff.2 ⟨by rw [bv_length, fillB_len], fun v hv => ?_⟩
  obtain ⟨x, hx, rfl⟩ := List.mem_map.1 hv
  obtain ⟨j, _, rfl⟩ := List.mem_map.1 hx
  simp
end Go.Proofs.YtielfpkjoidomaaGreat
namespace Go.Proofs.YtielfpkjoidomaaGreat
open Go Go.RowKit Coup
structure LeafT where
  num : Int
  b : List UInt8
def recOf (L : List LeafT) : Rec := L.map fun x => ⟨x.num, pageB x.b⟩
structure LvAt (w : World) (p : Option Addr) (n : Nat) (L : List LeafT) : Prop where
  len : L.length = n
  ex : ∃ vs, SlAt w p n 2 vs ∧ ∀ (i : Nat) (x : LeafT), L[i]? = some x → vs[i * 2]? = some (.int .i64 x.num) ∧ ∃ q c, vs[i * 2 + 1]? = some (.slice q x.b.length c) ∧ SlAt w q x.b.length 1 (bv x.b)
end Go.Proofs.YtielfpkjoidomaaGreat
namespace Go.Proofs.YtielfpkjoidomaaGreat
open Go Go.RowKit Coup
theorem ofR_eq (b : List UInt8) (m : Nat) (hl : b.length = 516 * m) : ofR b = if mayR (ofL b m) then some (ofL b m) else none := by
  have h1 : b.length / 516 = m := by omega
  have h2 : b.length % 516 = 0 := by omega
  rw [ofR, ofOk, h1, h2, mayR, ofL_len]
  rfl
end Go.Proofs.YtielfpkjoidomaaGreat
namespace Go.Proofs.YtielfpkjoidomaaGreat
open Go Go.RowKit Coup
theorem readA {D : Dk} {k : Nat} (h : Alive D k) (a : Nat) (s : Sec) {j : Nat} (hj : j < D.V.length) : readD (writeA D (a : Int) s) j = if a = j then s else readD D j := by
  have h1 := (h.writeA (a : Int) s).2.2 j hj
  unfold readD
  rw [h1]
  by_cases e : a = j
  · rw [if_pos (by omega), if_pos e]; simp [lastS]
  · rw [if_neg (by omega), if_neg e]
theorem writesW_alive : ∀ (R : List Sec) {D : Dk} {k : Nat} (a : Nat), Alive D k → (writesW D a R).2 = true ∧ Alive (writesW D a R).1 (k + R.length) ∧
    ∀ j, j < D.V.length → readD (writesW D a R).1 j = if a ≤ j ∧ j < a + R.length then R.getD (j - a) zeroS else readD D j
  | [], D, k, a, h => ⟨rfl, h, fun j hj => by rw [if_neg (by rw [List.length_nil]; omega)]; rfl⟩
  | s :: R, D, k, a, h => by
    obtain ⟨h1, h2⟩ := step_alive h.left h.dead
    obtain ⟨e1, e2, _⟩ := h.writeA (a : Int) s
    obtain ⟨f1, f2, f3⟩ := writesW_alive R (a + 1) e1
    rw [writesW, if_pos h1]
    refine ⟨f1, by rw [List.length_cons, show k + (R.length + 1) = k + 1 + R.length by omega]; exact f2, fun j hj => ?_⟩
    rw [f3 j (by rw [e2]; exact hj), readA h a s hj, List.length_cons]
    by_cases c1 : a + 1 ≤ j ∧ j < a + 1 + R.length
    · rw [if_pos c1, if_pos (by omega), show j - a = (j - (a + 1)) + 1 by omega, List.getD_cons_succ]
    · rw [if_neg c1]
      by_cases c2 : a = j
      · rw [if_pos c2, if_pos (by omega), show j - a = 0 by omega, List.getD_cons_zero]
      · rw [if_neg c2, if_neg (by omega)]
theorem readF {D : Dk} (h : stepOk D = true) {j : Nat} (hj : j < D.V.length) : readD (flushD D) j = readD D j := by
  have h1 := flush_ver h hj
  show lastS (ver (flushD D) j) = _
  rw [h1]; rfl
theorem putW_alive (R : List Sec) {D : Dk} {k : Nat} (a : Nat) (h : Alive D k) : (putW D a R).2 = true ∧ Alive (putW D a R).1 1 ∧ (putW D a R).1.V.length = D.V.length ∧
    ∀ j, j < D.V.length → readD (putW D a R).1 j = if a ≤ j ∧ j < a + R.length then R.getD (j - a) zeroS else readD D j := by
  obtain ⟨h1, h2, h3⟩ := writesW_alive R a h
  have hl := writesW_len R D a
  obtain ⟨h4, h5⟩ := flush_alive h2
  rw [putW, if_pos h1]
  exact ⟨h4, h5, by rw [flush_len, hl], fun j hj => by rw [readF h4 (by rw [hl]; exact hj), h3 j hj]⟩
theorem save_alive {D : Dk} {k : Nat} (h : Alive D k) (c s : Nat) : saveE D c s = true ∧ Alive (saveD D c s) 1 ∧ (saveD D c s).V.length = D.V.length ∧
    ∀ j, j < D.V.length → readD (saveD D c s) j = if j = 0 then headB c s else readD D j := by
  obtain ⟨h1, _⟩ := step_alive h.left h.dead
  obtain ⟨e1, e2, _⟩ := h.writeA 0 (headB c s)
  obtain ⟨h4, h5⟩ := flush_alive e1
  unfold saveE saveD
  rw [h1, if_pos rfl, Bool.true_and]
  refine ⟨h4, h5, by rw [flush_len, e2], fun j hj => ?_⟩
  rw [readF h4 (by rw [e2]; exact hj)]
  have := readA h 0 (headB c s) hj
  rw [show ((0 : Nat) : Int) = 0 from rfl] at this
  rw [this]
  by_cases e : j = 0
  · rw [if_pos e, if_pos e.symm]
  · rw [if_neg e, if_neg fun h => e h.symm]
theorem zeros_read {D : Dk} {k : Nat} (h : Alive D k) : ∀ m j, j < D.V.length → readD (zerosD D m) j = if j < m then zeroS else readD D j
  | 0, j, hj => by rw [if_neg (by omega)]; rfl
  | m + 1, j, hj => by
    obtain ⟨h1, h2⟩ := zeros_alive h m
    rw [zerosD_succ, readA h1 m zeroS (by rw [h2]; exact hj), zeros_read h m j hj]
    by_cases e : m = j
    · rw [if_pos e, if_pos (by omega)]
    · rw [if_neg e]
      by_cases c : j < m
      · rw [if_pos c, if_pos (by omega)]
      · rw [if_neg c, if_neg (by omega)]
theorem fmt_alive {D : Dk} {k : Nat} (h : Alive D k) (n : Nat) : Alive (fmtD D n) 1 ∧ (fmtD D n).V.length = D.V.length ∧
    ∀ j, j < D.V.length → readD (fmtD D n) j = if j = 0 then headB 1 1 else if j < 1 + n then zeroS else readD D j := by
  obtain ⟨h1, h2⟩ := zeros_alive h (1 + n)
  obtain ⟨h4, h5⟩ := flush_alive h1
  have hfl : (flushD (zerosD D (1 + n))).V.length = D.V.length := by rw [flush_len, h2]
  obtain ⟨a1, a2, a3, a4⟩ := save_alive h5 1 1
  have hst := (step_alive h5.left h5.dead).1
  have he : saveD (flushD (zerosD D (1 + n))) 1 1 = fmtD D n := by
    unfold saveE at a1
    rw [hst, Bool.true_and] at a1
    rw [saveD, hst, if_pos rfl]; rfl
  rw [he] at a2 a3 a4
  refine ⟨a2, by rw [a3, hfl], fun j hj => ?_⟩
  rw [a4 j (by rw [hfl]; exact hj), readF h4 (by rw [h2]; exact hj), zeros_read h (1 + n) j hj]
end Go.Proofs.YtielfpkjoidomaaGreat
namespace Go.Proofs.YtielfpkjoidomaaGreat
open Go Go.RowKit Coup
theorem rowsL_zero {f n : Nat} {l : List UInt8} (h : joinIs l n = false) : rowsL f l n = [] := by
  cases f with
  | zero => rfl
  | succ f => rw [rowsL, h]; rfl
theorem rowsL_fuel : ∀ (f f' : Nat) (l : List UInt8) (n : Nat), n ≤ f → n ≤ f' → l.length = n * 128 → rowsL f l n = rowsL f' l n
  | 0, f', l, n, h1, h2, hl => by
    have hj : joinIs l n = false := by
      cases hj : joinIs l n with
      | false => rfl
      | true => have := (join_facts hj).1; omega
    rw [rowsL_zero hj, rowsL_zero hj]
  | f + 1, f', l, n, h1, h2, hl => by
    cases hj : joinIs l n with
    | false => rw [rowsL_zero hj, rowsL_zero hj]
    | true =>
      obtain ⟨h0, _, h3⟩ := join_facts hj
      obtain ⟨h4, h5⟩ := h3 hl
      obtain ⟨f', rfl⟩ : ∃ z, f' = z + 1 := ⟨f' - 1, by omega⟩
      rw [rowsL, rowsL, hj, if_pos rfl, if_pos rfl, rowsL_fuel f f' _ _ (by omega) (by omega) (by rw [List.length_drop, hl]; omega)]
theorem chOf_rec : ∀ (R : Rec) (hR : chsOk R) (hn : (R.all fun c => numOk c.num) = true) (X : List UInt8) (i : Nat) (c : Ch), R[i]? = some c → chOf (recB R ++ X) i = c
  | [], hR, hn, X, i, c, h => by simp at h
  | d :: R, hR, hn, X, i, c, h => by
    have hd := hR d (List.mem_cons_self ..)
    rw [List.all_cons, Bool.and_eq_true] at hn
    have hno := of_decide_eq_true hn.1
    have hb : recB (d :: R) ++ X = beB 4 d.num.toNat ++ (d.page ++ (recB R ++ X)) := by
      rw [recB, List.flatMap_cons]; simp [recB, List.append_assoc]
    cases i with
    | zero =>
      obtain rfl : d = c := by simpa using h
      rw [hb, chOf, Nat.mul_zero, List.drop_zero, List.take_left' (beB_length _ _), Nat.zero_add, List.drop_left' (beB_length _ _), List.take_left' hd]
      have hx : numB (beB 4 d.num.toNat) = d.num.toNat := by rw [numB_beB]; exact Nat.mod_eq_of_lt (by omega)
      rw [hx]
      cases d
      simp only [Ch.mk.injEq, and_true]
      dsimp only at hno
      omega
    | succ i =>
      have h' : R[i]? = some c := by simpa using h
      have ih := chOf_rec R (fun x hx => hR x (List.mem_cons_of_mem _ hx)) hn.2 X i c h'
      have hdl : (beB 4 d.num.toNat ++ d.page).length = 516 := by rw [List.length_append, beB_length, hd]
      have hb2 : recB (d :: R) ++ X = (beB 4 d.num.toNat ++ d.page) ++ (recB R ++ X) := by rw [hb, List.append_assoc]
      have e1 : ∀ j, (recB (d :: R) ++ X).drop (516 * (i + 1) + j) = (recB R ++ X).drop (516 * i + j) := fun j => by
        rw [hb2, show 516 * (i + 1) + j = 516 + (516 * i + j) by omega, ← List.drop_drop, List.drop_left' hdl]
      rw [← ih, chOf, chOf, e1 4, show 516 * (i + 1) = 516 * (i + 1) + 0 by omega, e1 0, Nat.add_zero]
theorem ofL_rec {R : Rec} (hR : chsOk R) (hn : (R.all fun c => numOk c.num) = true) : ofL (recB R) R.length = R := by
  refine List.ext_getElem? fun i => ?_
  by_cases hi : i < R.length
  · obtain ⟨c, hc⟩ : ∃ c, R[i]? = some c := ⟨_, List.getElem?_eq_getElem hi⟩
    have := chOf_rec R hR hn [] i c hc
    rw [List.append_nil] at this
    rw [ofL_at _ hi, hc, this]
  · rw [List.getElem?_eq_none (by rw [ofL_len]; omega), List.getElem?_eq_none (by omega)]
theorem ofR_rec {R : Rec} (hR : chsOk R) (hm : mayR R = true) : ofR (recB R) = some R := by
  have hl := recB_len hR
  have hn := (Bool.and_eq_true_iff.1 hm).2
  rw [ofR_eq (recB R) R.length hl, ofL_rec hR hn, if_pos hm]
end Go.Proofs.YtielfpkjoidomaaGreat
namespace Go.Proofs.YtielfpkjoidomaaGreat
open Go Go.RowKit Coup
def rowsT : Nat → List (Nat × Rec) → List UInt8
  | _, [] => []
  | k, x :: T => rowB x.1 k (recB x.2) ++ rowsT (k + 1) T
def atT (T : List (Nat × Rec)) : Nat := atS (T.map (·.2))
theorem atT_cons (x : Nat × Rec) (T : List (Nat × Rec)) : atT (x :: T) = needN (516 * x.2.length) + atT T := by simp [atT, atS]
def okT (s c : Nat) (T : List (Nat × Rec)) : Prop := ∀ x ∈ T, s ≤ x.1 ∧ x.1 ≤ c ∧ chsOk x.2 ∧ mayR x.2 = true
theorem rec_short {R : Rec} (hR : chsOk R) (hm : mayR R = true) : (recB R).length ≤ 32768 := by
  have := of_decide_eq_true (Bool.and_eq_true_iff.1 hm).1
  rw [recB_len hR]; omega
end Go.Proofs.YtielfpkjoidomaaGreat
namespace Go.Proofs.YtielfpkjoidomaaGreat
open Go Go.RowKit Coup
def secL (D : Dk) (n : Nat) : List Sec := (List.range n).map fun i => readD D (1 + i)
theorem logB_eq (D : Dk) (n : Nat) : logB D n = (secL D n).flatten := rfl
theorem secL_len (D : Dk) (n : Nat) : (secL D n).length = n := by simp [secL]
theorem secL_get (D : Dk) {n i : Nat} (h : i < n) : (secL D n)[i]? = some (readD D (1 + i)) := by rw [secL, List.getElem?_map, List.getElem?_range h]; rfl
theorem secL_ok {D : Dk} (h : DkOk D) {n : Nat} (hn : 1 + n ≤ D.V.length) : secsOk (secL D n) := fun s hs => by
  obtain ⟨i, hi, rfl⟩ := List.mem_map.1 hs
  have := List.mem_range.1 hi
  exact readD_len h (by omega)
theorem flat_take : ∀ {L : List Sec} (_ : secsOk L) (k : Nat), (L.take k).flatten = L.flatten.take (128 * k) ∧ (L.drop k).flatten = L.flatten.drop (128 * k)
  | [], _, k => by simp
  | s :: L, h, 0 => by simp
  | s :: L, h, k + 1 => by
    have hs : s.length = 128 := h s (List.mem_cons_self ..)
    obtain ⟨h1, h2⟩ := flat_take (L := L) (fun x hx => h x (List.mem_cons_of_mem _ hx)) k
    rw [List.take_succ_cons, List.drop_succ_cons, List.flatten_cons, List.flatten_cons, h1, h2, show 128 * (k + 1) = s.length + 128 * k by omega]
    refine ⟨?_, ?_⟩
    · rw [List.take_append, List.take_of_length_le (l := s) (by omega), Nat.add_sub_cancel_left]
    · rw [List.drop_append, (List.drop_of_length_le (by omega) : s.drop (s.length + 128 * k) = []), Nat.add_sub_cancel_left, List.nil_append]
theorem secL_put {D D' : Dk} {n a : Nat} {R : List Sec} (hn : 1 + n ≤ D.V.length) (hfit : a + R.length ≤ n) (h : ∀ j, j < D.V.length → readD D' j = if 1 + a ≤ j ∧ j < 1 + a + R.length then R.getD (j - (1 + a)) zeroS else readD D j) :
    secL D' n = (secL D n).take a ++ (R ++ (secL D n).drop (a + R.length)) := by
  have hl := secL_len D n
  refine List.ext_getElem? fun i => ?_
  by_cases hi : i < n
  · rw [secL_get D' hi, h (1 + i) (by omega)]
    by_cases c1 : i < a
    · rw [if_neg (by omega), List.getElem?_append_left (by rw [List.length_take]; omega), List.getElem?_take, if_pos c1, secL_get D hi]
    · rw [List.getElem?_append_right (by rw [List.length_take]; omega), List.length_take, hl, Nat.min_eq_left (by omega)]
      by_cases c2 : i < a + R.length
      · rw [if_pos (by omega), List.getElem?_append_left (by omega), show 1 + i - (1 + a) = i - a by omega, List.getD_eq_getElem?_getD, List.getElem?_eq_getElem (by omega)]; rfl
      · rw [if_neg (by omega), List.getElem?_append_right (by omega), List.getElem?_drop, show a + R.length + (i - a - R.length) = i by omega, secL_get D hi]
  · rw [List.getElem?_eq_none (by rw [secL_len]; omega), List.getElem?_eq_none (by simp only [List.length_append, List.length_take, List.length_drop, hl]; omega)]
theorem logB_put {D D' : Dk} {n a : Nat} {R : List Sec} {B X : List UInt8} (hD : DkOk D) (hn : 1 + n ≤ D.V.length) (hfit : a + R.length ≤ n) (h : ∀ j, j < D.V.length → readD D' j = if 1 + a ≤ j ∧ j < 1 + a + R.length then R.getD (j - (1 + a)) zeroS else readD D j)
    (hB : logB D n = B ++ X) (hBl : B.length = 128 * a) : logB D' n = B ++ (R.flatten ++ X.drop (128 * R.length)) := by
  have hok := secL_ok hD hn
  rw [logB_eq, secL_put hn hfit h, List.flatten_append, List.flatten_append, (flat_take hok a).1, (flat_take hok (a + R.length)).2, ← logB_eq, hB, List.take_left' hBl, Nat.mul_add, ← hBl, List.drop_append, List.drop_of_length_le (by omega), Nat.add_sub_cancel_left, List.nil_append]
end Go.Proofs.YtielfpkjoidomaaGreat
namespace Go.Proofs.YtielfpkjoidomaaGreat
open Go Go.RowKit Coup
theorem join_count0 {l : List UInt8} {n : Nat} (h : hCount (halfAt l 0) = 0) : joinIs l n = false := by
  cases hj : joinIs l n with
  | false => rfl
  | true =>
    have := (may_bounds (join_facts hj).2.1).1
    omega
theorem zeros_take (a k : Nat) : (zerosB a).take k = zerosB (min k a) := by simp [zerosB]
theorem zeros_drop (a k : Nat) : (zerosB a).drop k = zerosB (a - k) := by simp [zerosB]
theorem numB_zeros : ∀ k, numB (zerosB k) = 0 := fun k => by
  induction k with
  | zero => rfl
  | succ k ih =>
    have h : zerosB (k + 1) = zerosB k ++ [0] := by simp [zerosB, List.replicate_succ']
    rw [h]
    simp only [numB] at ih ⊢
    rw [List.foldl_append, ih]; rfl
theorem join_zeros (a n : Nat) : joinIs (zerosB a) n = false := join_count0 (by rw [hCount, halfAt, zeros_drop, zeros_take, zeros_take, numB_zeros])
theorem recs_zeros (s c k f a n : Nat) : recsL s c k (rowsL f (zerosB a) n) = [] := by rw [rowsL_zero (join_zeros a n)]; rfl
theorem secL_zeros {D : Dk} : ∀ {n : Nat}, (∀ j, j < n → readD D (1 + j) = zeroS) → logB D n = zerosB (128 * n)
  | 0, _ => rfl
  | n + 1, h => by
    rw [logB_succ, secL_zeros fun j hj => h j (by omega), h n (by omega), show 128 * (n + 1) = 128 * n + 128 by omega]
    have e : zeroS = zerosB 128 := rfl
    rw [e]
    unfold zerosB
    exact List.replicate_append_replicate
end Go.Proofs.YtielfpkjoidomaaGreat
namespace Go.Proofs.YtielfpkjoidomaaGreat
open Go Go.RowKit Coup
theorem head_back {c s : Nat} (hc : c < 18446744073709551616) (hs : s < 18446744073709551616) : hdC (headB c s) = c ∧ hdS (headB c s) = s := by
  have hm : magic.length = 4 := rfl
  have e8 : (256 : Nat) ^ 8 = 18446744073709551616 := by decide
  refine ⟨?_, ?_⟩
  · rw [hdC, headB, List.drop_left' hm, List.take_left' (beB_length _ _), numB_beB, e8, Nat.mod_eq_of_lt hc]
  · have h1 : (magic ++ (beB 8 c ++ (beB 8 s ++ zerosB 108))).drop 12 = beB 8 s ++ zerosB 108 := by
      rw [← List.append_assoc, List.drop_left' (by rw [List.length_append, beB_length, hm])]
    rw [hdS, headB, h1, List.take_left' (beB_length _ _), numB_beB, e8, Nat.mod_eq_of_lt hs]
theorem head_torn (c s : Nat) : tornB (headB c s) zeroS = headB c s := by
  have hz : zeroS = zerosB 128 := rfl
  have hl : (magic ++ (beB 8 c ++ beB 8 s)).length = 20 := by simp [magic, beB_length]
  have he : headB c s = (magic ++ (beB 8 c ++ beB 8 s)) ++ zerosB 108 := by simp [headB, List.append_assoc]
  rw [tornB, hz, he, List.take_append, List.take_of_length_le (by rw [hl]; omega), hl, zeros_take, zeros_drop, List.append_assoc]
  congr 1
theorem head_is {c s : Nat} (h1 : 1 ≤ s) (h2 : s ≤ c) (h3 : c ≤ 4611686018427387904) : hdIs (headB c s) = true := by
  obtain ⟨e1, e2⟩ := head_back (c := c) (s := s) (by omega) (by omega)
  rw [hdIs, e1, e2, head_torn, decide_eq_true rfl, decide_eq_true h1, decide_eq_true h2, decide_eq_true h3]; rfl
theorem open_head {D : Dk} {c s : Nat} {n : Int} (hf : fitsN D.V.length n = true) (hr : readD D 0 = headB c s) (h1 : 1 ≤ s) (h2 : s ≤ c) (h3 : c < 4611686018427387904) : openE D n = 0 ∧ hdC (readD D 0) = c ∧ hdS (readD D 0) = s := by
  obtain ⟨e1, e2⟩ := head_back (c := c) (s := s) (by omega) (by omega)
  rw [openE, if_pos hf, hr, if_pos (head_is h1 h2 (by omega)), e1, if_neg (by omega)]
  exact ⟨rfl, rfl, e2⟩
end Go.Proofs.YtielfpkjoidomaaGreat
namespace Go.Proofs.YtielfpkjoidomaaGreat
open Go Go.RowKit Coup
theorem LgAt.own {Y : World → List Nat → Prop} [hY : Thing Y] {g x lo : Nat} {L : List Nat} {D : Dk} {G : Lg} {w w' : World} {v : Value} (h : LgAt g x Y lo L D G w) (hg : w.grownBy w' v.ownBlock) (hv : ∀ b, v.ownBlock = some b → b ∈ L) : LgAt g x Y lo L D G w' :=
  h.kpd (Kp.of_grown hg) fun b hb => .inr (hv b (Option.mem_toList.1 hb))
def kR : Rec := recOf [⟨5, [7]⟩]
theorem commit_alive {D : Dk} {G : Lg} {R : Rec} {k : Nat} (h : Alive D k) (hd : G.dead = false) (hm : mayR R = true) (hfit : G.at_ + (rowW G R).length ≤ G.size) (hn : 1 + G.size ≤ D.V.length) :
    commitR D G R = (0, (putW D (1 + G.at_) (rowW G R)).1, { G with at_ := G.at_ + (rowW G R).length, num := G.num + 1 }) := by
  obtain ⟨h1, _⟩ := putW_alive (rowW G R) (1 + G.at_) h
  rw [commitR, hd, if_neg (by simp), if_neg (by rw [hm]; simp), if_neg (by omega), h1, if_pos rfl]
end Go.Proofs.YtielfpkjoidomaaGreat
namespace Go.Proofs.YtielfpkjoidomaaGreat
open Go Go.RowKit Coup
set_option maxRecDepth 20000 in
set_option maxHeartbeats 1000000 in
theorem page06 (b : List UInt8) (p : Option Addr) (n cp : Nat) (w : World) (h : SlAt w p n 1 (bv b)) :
    Calls Tryz.prog 13 [.slice p n cp].toArray w (Ret fun v w' => v = .agg (bv (pageB b)).toArray ∧ Below w.heap.size w w') := by
  have hB := Below.refl w.heap.size w
  have hbl : b.length = n := by simpa [bv_length] using h.len
  have hfl := fillB_len b
  have hpl := pageB_len b
  refine calls_W (fn := Tryz.f13) (rs := [.cell 2 37]) (n := 23) Tryz.func13 rfl rfl Tryz.ntmps13 (by kernel_rfl) rfl ?_
  refine W_seq ?_
  refine W_region ?_
  refine WR_mk rfl (mk_alloc (List.replicate 512 (byteV 0)) (by kernel_rfl) (fun g2 w2 hg2 hr2 hb2 => ?_))
  have ge_hB_g2 := Nat.le_trans hB.size hg2
  replace hB := hB.acc hb2
  refine WR_nil ?_
  refine thenN ?_
  refine W_seq ?_
  refine W_seq ?_
  refine W_region ?_
  refine WR_val rfl (rn_assign) ?_
  refine WR_nil ?_
  refine thenN ?_
  refine W_block ?_
  rw [← fillB_zero b] at hr2
  refine W_loop (α := Nat) 0 (fun k => [(3, .int .i64 (k : Nat)), (0, .slice p n cp), (2, .pointer (some ⟨g2, 0, none⟩))])
    (fun k w' => k ≤ 512 ∧ (n = 0 → k = 0) ∧ row w' g2 (bv (fillB b k)) 37 ∧ Below w.heap.size w w') (fun k => 512 - k) ⟨rfl, rfl, rfl, rfl⟩ ⟨by omega, fun _ => rfl, hr2, hB⟩ ?_
  clear hB hr2
  rintro i f wr ⟨hi, hz, hr2, hB⟩
  refine W_seq ?_
  refine W_seq ?_
  refine W_region ?_
  refine WR_val rfl (rn_move) ?_
  refine WR_val rfl (rn_lss rfl rfl) ?_
  refine WR_val rfl (rn_move) ?_
  refine WR_part 6 rfl (fun hlt => ?_) (fun hlt => ?_)
  ·
    refine WR_yes rfl ?_
    refine WR_val rfl (rn_move) ?_
    refine WR_yes rfl ?_
    refine WR_val rfl (rn_lenSl (e := 5) (sz := 1) (by kernel_rfl) rfl rfl) ?_
    refine WR_yes rfl ?_
    refine WR_val rfl (rn_gtr rfl rfl) ?_
    refine WR_val rfl (rn_pick_t rfl) ?_
    refine WR_nil ?_
    refine thenN ?_
    refine W_ifp rfl (fun hpos => ?_) (fun hpos => ?_)
    ·
      refine W_skip ?_
      refine thenN ?_
      refine W_seq ?_
      refine W_block ?_
      refine W_region ?_
      refine WR_val rfl (rn_move) ?_
      refine WR_val rfl (rn_move) ?_
      refine WR_val rfl (rn_move) ?_
      refine WR_val rfl (rn_move) ?_
      refine WR_val rfl (rn_lenSl (e := 5) (sz := 1) (by kernel_rfl) rfl rfl) ?_
      refine WR_val rfl (rn_rem0 rfl rfl (by omega) (by omega)) ?_
      have hmod : i % n < n := Nat.mod_lt _ (by omega)
      have hv := bv_getD b (i % n) (by omega)
      have hfi := hfl i
      have hobt := h.some (by omega)
      obtain ⟨gp, op, rfl, _⟩ := hobt
      refine WR_val rfl (rn_indexSl1 (e := 5) (by kernel_rfl) rfl rfl (i % n) (by first | rfl | omega) (by omega)) ?_
      refine WR_val rfl (rn_load rfl (Ld.sl1 (h.below hB (Nat.le_refl _)) (by kernel_rfl) hv)) ?_
      refine WR_val rfl (rn_indexAr1 (e := 5) (m := 512) (by kernel_rfl) rfl rfl (i) (by omega) (by omega)) ?_
      refine WR_sk rfl (sk_store1 rfl rfl rfl rfl hr2 (by kernel_rfl) (by first | (simp only [List.length_replicate]; omega) | (simp only [iv_length]; omega) | (simp only [bv_length, List.length_set]; omega) | simp) (fun w901 hr2 ho901 => ?_))
      replace hB := ho901.below hB ge_hB_g2
      refine WR_nil ?_
      refine blockN ?_
      refine thenN ?_
      refine W_region ?_
      refine WR_val rfl (rn_move) ?_
      refine WR_val rfl (rn_add rfl rfl (Coup.w64 (by omega))) ?_
      refine WR_val rfl (rn_assign) ?_
      refine WR_nil ?_
      have hfs := fillB_set b (i := i) (by omega)
      rw [hbl] at hfs
      replace hfs : (bv (fillB b i)).set (0 + i) (byteV (b.getD (i % n) 0)) = bv (fillB b (i + 1)) := by rw [Nat.zero_add]; exact hfs
      have hr3 : row w901 g2 (bv (fillB b (i + 1))) 37 := by rw [← hfs]; exact hr2
      refine loopN ⟨i + 1, by omega, ⟨by go_num, rfl, rfl, rfl⟩, by omega, fun h => by omega, hr3, hB⟩
    ·
      have hpg : fillB b i = pageB b := by rw [pageB, if_neg (by omega), hz (by omega)]
      rw [hpg] at hr2
      refine W_exit ?_
      refine thenX ?_
      refine loopX ?_
      refine blockX ?_
      refine thenN ?_
      refine W_seq ?_
      refine W_region ?_
      refine WR_val rfl (rn_load rfl (Ld.rowA (k := 512) hr2 (by kernel_rfl) (by kernel_rfl) (by rw [bv_length, hpl]))) ?_
      refine WR_sk rfl (sk_storeA 512 (bv (pageB b)) rfl rfl hr2 (by kernel_rfl) (by first | assumption | (simp; done) | (simp [bv_length, *]; done)) (by first | assumption | (simp; done) | (simp [bv_length, *]; done) | rfl) (by first | exact bv_one _ | assumption | (simp [Value.oneCell']; done)) (fun w902 hr2 ho902 => ?_))
      replace hB := ho902.below hB ge_hB_g2
      refine WR_nil ?_
      refine thenN ?_
      refine W_ret ?_
      refine ret_ret [_] ⟨⟨_, rfl, Ld.rowA (k := 512) hr2 (by kernel_rfl) (by kernel_rfl) (by first | (simp; done) | (simp [bv_length, *]; done) | assumption)⟩, trivial⟩ ?_
      exact ⟨rfl, hB⟩
  ·
    have hi2 : i = 512 := by omega
    subst hi2
    have hpg : fillB b 512 = pageB b := by rw [pageB, if_pos (by by_cases h0 : n = 0 <;> omega)]
    rw [hpg] at hr2
    refine WR_no rfl rfl ?_
    refine WR_no rfl rfl ?_
    refine WR_no rfl rfl ?_
    refine WR_val rfl (rn_pick_f rfl) ?_
    refine WR_nil ?_
    refine thenN ?_
    refine W_f rfl ?_
    refine W_exit ?_
    refine thenX ?_
    refine loopX ?_
    refine blockX ?_
    refine thenN ?_
    refine W_seq ?_
    refine W_region ?_
    refine WR_val rfl (rn_load rfl (Ld.rowA (k := 512) hr2 (by kernel_rfl) (by kernel_rfl) (by rw [bv_length, hpl]))) ?_
    refine WR_sk rfl (sk_storeA 512 (bv (pageB b)) rfl rfl hr2 (by kernel_rfl) (by first | assumption | (simp; done) | (simp [bv_length, *]; done)) (by first | assumption | (simp; done) | (simp [bv_length, *]; done) | rfl) (by first | exact bv_one _ | assumption | (simp [Value.oneCell']; done)) (fun w903 hr2 ho903 => ?_))
    replace hB := ho903.below hB ge_hB_g2
    refine WR_nil ?_
    refine thenN ?_
    refine W_ret ?_
    refine ret_ret [_] ⟨⟨_, rfl, Ld.rowA (k := 512) hr2 (by kernel_rfl) (by kernel_rfl) (by first | (simp; done) | (simp [bv_length, *]; done) | assumption)⟩, trivial⟩ ?_
    exact ⟨rfl, hB⟩
set_option maxRecDepth 20000 in
theorem same06 (a b : List Int) (p q : Option Addr) (c d : Nat) (w : World) (ha : SlAt w p a.length 1 (iv a)) (hb : SlAt w q b.length 1 (iv b)) :
    Calls Tryz.prog 20 [.slice p a.length c, .slice q b.length d].toArray w (Ret fun v w' => v = .bool (decide (a = b)) ∧ Below w.heap.size w w') := by
  have hB := Below.refl w.heap.size w
  have hml : maxLen = 9223372036854775807 := by decide
  have hmx := ha.max
  refine calls_W (fn := Tryz.f20) (rs := [.tmp 4]) (n := 26) Tryz.func20 rfl rfl Tryz.ntmps20 (by kernel_rfl) rfl ?_
  refine W_seq ?_
  refine W_region ?_
  refine WR_val rfl (rn_assign) ?_
  refine WR_nil ?_
  refine thenN ?_
  refine W_seq ?_
  refine W_seq ?_
  refine W_region ?_
  refine WR_val rfl (rn_move) ?_
  refine WR_val rfl (rn_lenSl (e := 3) (sz := 1) (by kernel_rfl) rfl rfl) ?_
  refine WR_val rfl (rn_move) ?_
  refine WR_val rfl (rn_lenSl (e := 3) (sz := 1) (by kernel_rfl) rfl rfl) ?_
  refine WR_val rfl (rn_neq rfl rfl) ?_
  refine WR_nil ?_
  refine thenN ?_
  refine W_ifp rfl (fun hne => ?_) (fun hne => ?_)
  ·
    refine W_seq ?_
    refine W_region ?_
    refine WR_val rfl (rn_assign) ?_
    refine WR_nil ?_
    refine thenN ?_
    refine W_ret ?_
    refine thenR ?_
    refine ret_ret [_] ⟨rfl, trivial⟩ ?_
    have hn : a ≠ b := fun e => hne (by rw [e])
    exact ⟨by rw [decide_eq_false hn]; rfl, hB⟩
  ·
    have hl : a.length = b.length := by omega
    refine W_skip ?_
    refine thenN ?_
    refine W_seq ?_
    refine W_seq ?_
    refine W_region ?_
    refine WR_val rfl (rn_assign) ?_
    refine WR_nil ?_
    refine thenN ?_
    refine W_block ?_
    refine W_loop (α := Nat) 0 (fun k => [(5, .int .i64 (k : Nat)), (0, .slice p a.length c), (1, .slice q b.length d)])
      (fun k w' => k ≤ a.length ∧ (∀ j, j < k → a[j]? = b[j]?) ∧ Below w.heap.size w w') (fun k => a.length - k)
      ⟨rfl, rfl, rfl, rfl⟩ ⟨Nat.zero_le _, fun j hj => absurd hj (Nat.not_lt_zero _), hB⟩ ?_
    clear hB
    rintro i f wr ⟨hi, hall, hB⟩
    refine W_seq ?_
    refine W_seq ?_
    refine W_region ?_
    refine WR_val rfl (rn_move) ?_
    refine WR_val rfl (rn_move) ?_
    refine WR_val rfl (rn_lenSl (e := 3) (sz := 1) (by kernel_rfl) rfl rfl) ?_
    refine WR_val rfl (rn_lss rfl rfl) ?_
    refine WR_nil ?_
    refine thenN ?_
    refine W_ifp rfl (fun hlt => ?_) (fun hlt => ?_)
    ·
      refine W_skip ?_
      refine thenN ?_
      refine W_seq ?_
      refine W_block ?_
      refine W_seq ?_
      have hob1 : ∃ x, a[i]? = some x := ⟨_, List.getElem?_eq_getElem (by omega)⟩
      have hob2 : ∃ y, b[i]? = some y := ⟨_, List.getElem?_eq_getElem (by omega)⟩
      obtain ⟨x, hx⟩ := hob1
      obtain ⟨y, hy⟩ := hob2
      have hobt := ha.some (by omega)
      obtain ⟨gp, op, rfl, _⟩ := hobt
      have hobt := hb.some (by omega)
      obtain ⟨gq, oq, rfl, _⟩ := hobt
      have ha2 := fun w' (hb : Below w.heap.size w w') => ha.below hb (Nat.le_refl _)
      have hb2 := fun w' (h' : Below w.heap.size w w') => hb.below h' (Nat.le_refl _)
      refine W_draw' [] (by kernel_rfl) ?_
      intro w901 hb901 hS901
      replace hB := hB.acc hb901
      have hB_d901 := hB
      refine WA_take 0 (by kernel_rfl) rfl (fun _ _ => rn_move) ?_
      refine WA_take 1 (by kernel_rfl) rfl (fun _ _ => rn_move) ?_
      refine WA_take 2 (by kernel_rfl) rfl (fun _ _ => rn_indexSl1 (e := 3) (by kernel_rfl) rfl rfl (i) (by omega) (by omega)) ?_
      refine WA_take 3 (by kernel_rfl) rfl (fun w' hS' => rn_load rfl (Ld.sl1 (ha2 _ (hB_d901.kpd hS' (by first | (simp; done) | (simp; omega) | (simp [*]; done) | exact notLL (Or.inl (by omega)) | exact notLL (Or.inr (by simp)) | exact fun g hm => Nat.le_trans (by omega) (inLL hm).1 | (intro b o e; cases e; exact notLL (Or.inl (by omega))) | (intro b hm; have := (hu.lt b (Option.mem_toList.1 hm)).1; omega) | (intro b o e; cases e; intro hm; have := (hu.lt _ (Option.mem_toList.1 hm)).1; omega)))) (by kernel_rfl) (iv_some hx))) ?_
      refine WA_take 4 (by kernel_rfl) rfl (fun _ _ => rn_move) ?_
      refine WA_take 5 (by kernel_rfl) rfl (fun _ _ => rn_move) ?_
      refine WA_take 6 (by kernel_rfl) rfl (fun _ _ => rn_indexSl1 (e := 3) (by kernel_rfl) rfl rfl (i) (by omega) (by omega)) ?_
      refine WA_take 7 (by kernel_rfl) rfl (fun w' hS' => rn_load rfl (Ld.sl1 (hb2 _ (hB_d901.kpd hS' (by first | (simp; done) | (simp; omega) | (simp [*]; done) | exact notLL (Or.inl (by omega)) | exact notLL (Or.inr (by simp)) | exact fun g hm => Nat.le_trans (by omega) (inLL hm).1 | (intro b o e; cases e; exact notLL (Or.inl (by omega))) | (intro b hm; have := (hu.lt b (Option.mem_toList.1 hm)).1; omega) | (intro b o e; cases e; intro hm; have := (hu.lt _ (Option.mem_toList.1 hm)).1; omega)))) (by kernel_rfl) (iv_some hy))) ?_
      refine WA_take 8 (by kernel_rfl) rfl (fun _ _ => rn_neq rfl rfl) ?_
      refine WA_done (by kernel_rfl) ?_
      refine thenN ?_
      refine W_ifp rfl (fun hxy => ?_) (fun hxy => ?_)
      ·
        refine W_seq ?_
        refine W_region ?_
        refine WR_val rfl (rn_assign) ?_
        refine WR_nil ?_
        refine thenN ?_
        refine W_ret ?_
        refine blockR ?_
        refine thenR ?_
        refine loopR ?_
        refine blockR ?_
        refine thenR ?_
        refine ret_ret [_] ⟨rfl, trivial⟩ ?_
        have hn : a ≠ b := fun e => hxy (by rw [e, hy] at hx; exact (Option.some.inj hx).symm)
        exact ⟨by rw [decide_eq_false hn]; rfl, hB⟩
      ·
        have hxe : x = y := by simpa using hxy
        refine W_skip ?_
        refine blockN ?_
        refine thenN ?_
        refine W_region ?_
        refine WR_val rfl (rn_move) ?_
        refine WR_val rfl (rn_add rfl rfl (Coup.w64 (by omega))) ?_
        refine WR_val rfl (rn_assign) ?_
        refine WR_nil ?_
        refine loopN ⟨i + 1, by omega, ⟨by go_num, rfl, rfl, rfl⟩, by omega, fun j hj => ?_, hB⟩
        by_cases hji : j < i
        · exact hall j hji
        · obtain rfl : j = i := by omega
          rw [hx, hy, hxe]
    ·
      have hn : a = b := List.ext_getElem? fun j => by
        by_cases hj : j < a.length
        · exact hall j (by omega)
        · rw [List.getElem?_eq_none (by omega), List.getElem?_eq_none (by omega)]
      refine W_exit ?_
      refine thenX ?_
      refine loopX ?_
      refine blockX ?_
      refine thenN ?_
      refine W_seq ?_
      refine W_region ?_
      refine WR_val rfl (rn_assign) ?_
      refine WR_nil ?_
      refine thenN ?_
      refine W_ret ?_
      refine ret_ret [_] ⟨rfl, trivial⟩ ?_
      exact ⟨by rw [decide_eq_true hn]; rfl, hB⟩
theorem newP_zero {n j : Nat} (h : j < n) : readD (newD n) j = zeroS := by
  show lastS (ver (newD n) j) = zeroS
  have hv : ver (newD n) j = [zeroS] := by
    unfold ver newD
    rw [List.getD_eq_getElem?_getD, List.getElem?_replicate, if_pos h]; rfl
  rw [hv]; rfl
theorem zp_secs (j : Nat) : (secsOf zeroP 4).getD j zeroS = zeroS := by
  rw [List.getD_eq_getElem?_getD]
  by_cases hj : j < 4
  · rw [secsOf_get zeroP hj, Option.getD_some, zeroP, List.drop_replicate, List.take_replicate, zeroS]
    congr 1
    omega
  · rw [List.getElem?_eq_none (by rw [secsOf_len]; omega)]; rfl
theorem zp_zero {D : Dk} {k s : Nat} (h : Alive D k) (hz : ∀ j, j < D.V.length → readD D j = zeroS) : ∀ m j, j < D.V.length → readD (zpD D s m) j = zeroS
  | 0, j, hj => hz j hj
  | m + 1, j, hj => by
    obtain ⟨h1, h2⟩ := zp_alive (s := s) h m
    have h3 := (writesW_alive (secsOf zeroP 4) (1 + s + m * 4) h1).2.2 j (by rw [h2]; exact hj)
    rw [zpD, h3, zp_zero h hz m j hj, zp_secs]
    split <;> rfl
def frD (pages s : Nat) : Dk := fmtD (zpD (newD (1 + s + 4 * pages)) s pages) s
theorem cnt_fr {pages s : Nat} (h4 : 4 ≤ s) (hs : s ≤ 4000) : cntP (1 + s + 4 * pages) s = pages := by
  unfold cntP
  rw [if_neg (by omega), Int.toNat_natCast]; omega
theorem frD_all {pages s : Nat} (h4 : 4 ≤ s) (hs : s ≤ 4000) (hp : pages ≤ 500) : Alive (frD pages s) 1 ∧ (frD pages s).V.length = 1 + s + 4 * pages ∧ ∀ j, j < 1 + s + 4 * pages → readD (frD pages s) j = if j = 0 then headB 1 1 else zeroS := by
  have ha := alive_new (n := 1 + s + 4 * pages) (by omega)
  obtain ⟨h1, h2⟩ := zp_alive (s := s) ha pages
  rw [newD_len] at h2
  obtain ⟨f1, f2, f3⟩ := fmt_alive h1 s
  rw [h2] at f2 f3
  refine ⟨f1, f2, fun j hj => ?_⟩
  have hz := zp_zero (s := s) ha (fun j hj => newP_zero (by rw [newD_len] at hj; exact hj)) pages j (by rw [newD_len]; exact hj)
  rw [frD, f3 j hj, hz]
  split
  · rfl
  · split <;> rfl
theorem frD_open {pages s : Nat} (h4 : 4 ≤ s) (hs : s ≤ 4000) (hp : pages ≤ 500) : openE (frD pages s) s = 0 ∧ hdC (readD (frD pages s) 0) = 1 ∧ hdS (readD (frD pages s) 0) = 1 ∧ recsOf (frD pages s) (headG (frD pages s) s) = [] := by
  obtain ⟨h1, h2, h3⟩ := frD_all h4 hs hp
  obtain ⟨e1, e2, e3⟩ := open_head (D := frD pages s) (c := 1) (s := 1) (n := s) (by rw [h2]; exact decide_eq_true (by omega)) (by rw [h3 0 (by omega), if_pos rfl]) (by omega) (by omega) (by omega)
  refine ⟨e1, e2, e3, ?_⟩
  rw [recsOf, show (headG (frD pages s) s).size = s from Int.toNat_natCast s, secL_zeros fun j hj => by rw [h3 (1 + j) (by omega), if_neg (by omega)], recs_zeros]
def frP (pages s fr : Nat) : Pl := ⟨saveD (frD pages s) 2 1, ⟨2, 1, s, 0, 0, false⟩, fr, noP, noP, [], false⟩
theorem frP_open {pages s : Nat} (fr : Nat) (h4 : 4 ≤ s) (hs : s ≤ 4000) (hp : pages ≤ 500) : saveE (frD pages s) (hdC (readD (frD pages s) 0) + 1) (hdS (readD (frD pages s) 0)) = true ∧ openR (frD pages s) s fr = (0, frP pages s fr) := by
  obtain ⟨h1, h2, h3⟩ := frD_all h4 hs hp
  obtain ⟨e1, e2, e3, e4⟩ := frD_open h4 hs hp
  have hsv := save_alive h1 2 1
  rw [e2, e3]
  refine ⟨hsv.1, ?_⟩
  unfold openR openP0
  rw [e4, e2, e3, if_pos List.length_nil]
  rfl
theorem frP_all {pages s : Nat} (fr : Nat) (h4 : 4 ≤ s) (hs : s ≤ 4000) (hp : pages ≤ 500) : Alive (frP pages s fr).D 1 ∧ (frP pages s fr).D.V.length = 1 + s + 4 * pages ∧ (frP pages s fr).n = pages ∧ ∀ j, j < 1 + s + 4 * pages → readD (frP pages s fr).D j = if j = 0 then headB 2 1 else zeroS := by
  obtain ⟨h1, h2, h3⟩ := frD_all h4 hs hp
  obtain ⟨_, s2, s3, s4⟩ := save_alive h1 2 1
  rw [h2] at s3 s4
  refine ⟨s2, s3, ?_, fun j hj => ?_⟩
  · show cntP (saveD _ _ _).V.length s = pages
    rw [s3, cnt_fr h4 hs]
  · show readD (saveD _ _ _) j = _
    rw [s4 j hj, h3 j hj]
    split <;> rfl
theorem frP_ok {pages s fr : Nat} (h4 : 4 ≤ s) (hs : s ≤ 4000) (hp : pages ≤ 500) (hp4 : 4 ≤ pages) (h2 : 2 ≤ fr) (hm : fr ≤ 100) : PlOk (frP pages s fr) := by
  obtain ⟨a1, a2, a3, a4⟩ := frP_all fr h4 hs hp
  exact ⟨⟨Nat.le_refl _, (by show 1 ≤ 2; omega), (by show 2 ≤ _; omega), h4, hs, Nat.zero_le _, Nat.le_refl _, (by rw [a2]; show 1 + s ≤ _; omega)⟩, by rw [a3]; exact hp4, h2, hm, (fun i b h => nomatch h), (fun i b h => nomatch h), (fun c hc => nomatch hc), Nat.zero_le _⟩
end Go.Proofs.YtielfpkjoidomaaGreat
namespace Go.Proofs.YtielfpkjoidomaaGreat
open Go Go.RowKit Coup
structure PlI (P : Pl) (V : Nat → Pg) (k : Nat) : Prop where
  ok : PlOk P
  al : Alive P.D 1
  gd : P.G.dead = false
  de : P.dead = false
  ct : P.G.count ≤ k
  dn : ∀ n b, P.di n = some b → V n = b
  cl : ∀ c ∈ P.cl, ∃ n : Nat, c.num = (n : Int) ∧ P.di n = none ∧ c.page = V n
  pg : ∀ n, n < P.n → P.di n = none → pageD P.D (1 + P.G.size + n * 4) = V n
  ln : ∀ n, n < P.n → (V n).length = 512
theorem idxC_num {R : Rec} {n : Int} {c : Ch} (h : R[idxC R n]? = some c) : c.num = n := by
  have hl := (List.getElem?_eq_some_iff.1 h).1
  have hp : decide ((R[idxC R n]).num = n) = true := List.findIdx_getElem (p := fun c : Ch => decide (c.num = n)) (xs := R) (w := hl)
  have he := (List.getElem?_eq_some_iff.1 h).2
  rw [he] at hp
  exact of_decide_eq_true hp
namespace PlI
variable {P : Pl} {V : Nat → Pg} {k n : Nat}
theorem ask (h : PlI P V k) (hn : n < P.n) : askX P n = V n := by
  unfold askX
  split
  · exact (h.dn _ _ ‹_›).symm
  · rename_i hd
    split
    · rename_i c hc
      obtain ⟨m, h1, h2, h3⟩ := h.cl c (List.mem_of_getElem? hc)
      have h4 := idxC_num hc
      have : m = n := by omega
      rw [h3, this]
    · exact h.pg n hn hd
theorem up (h : PlI P V k) {k2 : Nat} (hk : k ≤ k2) : PlI P V k2 := ⟨h.ok, h.al, h.gd, h.de, Nat.le_trans h.ct hk, h.dn, h.cl, h.pg, h.ln⟩
theorem askP (h : PlI P V k) (hn : n < P.n) : PlI (askP P n) V k := by
  have hX := h.ask hn
  have hok : PlOk (Go.Proofs.YtielfpkjoidomaaGreat.askP P n) := by
    have hXl : (askX P n).length = 512 := by rw [hX]; exact h.ln n hn
    unfold Go.Proofs.YtielfpkjoidomaaGreat.askP
    split
    · exact h.ok
    · have h2 := frameC_ok h.ok.cl h.ok.cll n hXl
      exact ⟨h.ok.lg, h.ok.n4, h.ok.fr2, h.ok.frm, h.ok.ch, h.ok.di, h2.1, h2.2⟩
  revert hok
  unfold Go.Proofs.YtielfpkjoidomaaGreat.askP
  split
  · exact fun _ => h
  · rename_i hd
    intro hok
    refine ⟨hok, h.al, h.gd, h.de, h.ct, h.dn, fun c hc => ?_, h.pg, h.ln⟩
    have hm : c ∈ without P.cl n ∨ c = ⟨n, askX P n⟩ := by
      have h1 : c ∈ frameC P.fr P.cl n (askX P n) := hc
      unfold frameC at h1
      split at h1
      · have := List.mem_of_mem_drop h1
        rcases List.mem_append.1 this with h2 | h2
        · exact .inl h2
        · exact .inr (List.mem_singleton.1 h2)
      · rcases List.mem_append.1 h1 with h2 | h2
        · exact .inl h2
        · exact .inr (List.mem_singleton.1 h2)
    rcases hm with h2 | rfl
    · exact h.cl c (List.mem_filter.1 h2).1
    · exact ⟨n, rfl, hd, hX⟩
theorem setCh (h : PlI P V k) (c : PgM) (hc : ∀ i b, c i = some b → b.length = 512) : PlI { P with ch := c } V k :=
  ⟨⟨h.ok.lg, h.ok.n4, h.ok.fr2, h.ok.frm, hc, h.ok.di, h.ok.cl, h.ok.cll⟩, h.al, h.gd, h.de, h.ct, h.dn, h.cl, h.pg, h.ln⟩
theorem putP (h : PlI P V k) (hn : n < P.n) {X : Pg} (hX : X.length = 512) : PlI (putP P n X) V k := by
  refine (h.askP hn).setCh _ fun i b hb => ?_
  unfold updP at hb
  split at hb
  · split at hb
    · cases hb
    · rw [← Option.some.inj hb]; exact hX
  · exact h.ok.ch i b hb
theorem getP (h : PlI P V k) (hn : n < P.n) : PlI (getP P n) V k := by
  unfold Go.Proofs.YtielfpkjoidomaaGreat.getP
  split
  · exact h
  · exact h.askP hn
theorem getX (h : PlI P V k) (hn : n < P.n) : getX P n = (P.ch n).getD (V n) := by
  unfold Go.Proofs.YtielfpkjoidomaaGreat.getX
  split
  · rename_i b hb; rw [hb]; rfl
  · rename_i hb; rw [hb]; exact h.ask hn
end PlI
theorem page_four {D D' : Dk} {a : Nat} (h : ∀ i, i < 4 → readD D' (a + i) = readD D (a + i)) : pageD D' a = pageD D a := by
  unfold pageD
  congr 1
  exact List.map_congr_left fun i hi => h i (List.mem_range.1 hi)
theorem page_secs {D : Dk} {a : Nat} {X : Pg} (hX : X.length = 512) (h : ∀ i, i < 4 → readD D (a + i) = (secsOf X 4).getD i zeroS) : pageD D a = X := by
  have e : ((List.range 4).map fun i => readD D (a + i)) = secsOf X 4 := by
    refine List.ext_getElem? fun i => ?_
    by_cases hi : i < 4
    · rw [List.getElem?_map, List.getElem?_range hi, Option.map_some, h i hi, secsOf_get X hi, List.getD_eq_getElem?_getD, secsOf_get X hi]; rfl
    · rw [List.getElem?_eq_none (by simp; omega), List.getElem?_eq_none (by rw [secsOf_len]; omega)]
  unfold pageD
  rw [e, secsOf_flat, List.take_of_length_le (by omega)]
theorem wrAll_alive (s : Nat) : ∀ (l : List (Nat × Pg)) {D : Dk} {k : Nat}, Alive D k → (wrAll s D l).2 = true ∧ Alive (wrAll s D l).1 (k + 4 * l.length) ∧ (∀ j, j < D.V.length → j < 1 + s → readD (wrAll s D l).1 j = readD D j) ∧
    (∀ n, 1 + s + n * 4 + 4 ≤ D.V.length → (∀ p ∈ l, p.1 ≠ n) → pageD (wrAll s D l).1 (1 + s + n * 4) = pageD D (1 + s + n * 4))
  | [], D, k, h => ⟨rfl, h, fun _ _ _ => rfl, fun _ _ _ => rfl⟩
  | p :: l, D, k, h => by
    obtain ⟨h1, h2, h3⟩ := writesW_alive (secsOf p.2 4) (1 + s + p.1 * 4) h
    rw [secsOf_len] at h2 h3
    obtain ⟨i1, i2, i3, i4⟩ := wrAll_alive s l h2
    have hl := writesW_len (secsOf p.2 4) D (1 + s + p.1 * 4)
    rw [wrAll, if_pos h1]
    refine ⟨i1, i2.weak (by rw [List.length_cons]; omega), fun j hj hjs => ?_, fun n hn hm => ?_⟩
    · rw [i3 j (by rw [hl]; exact hj) hjs, h3 j hj, if_neg (by omega)]
    · rw [i4 n (by rw [hl]; exact hn) (fun q hq => hm q (List.mem_cons_of_mem _ hq))]
      have hpn := hm p (List.mem_cons_self ..)
      refine page_four fun i hi => ?_
      rw [h3 _ (by omega), if_neg (by omega)]
theorem wrAll_put (s : Nat) : ∀ (l : List (Nat × Pg)) {D : Dk} {k : Nat}, Alive D k → (l.map (·.1)).Nodup → (∀ p ∈ l, p.2.length = 512) → ∀ p ∈ l, 1 + s + p.1 * 4 + 4 ≤ D.V.length → pageD (wrAll s D l).1 (1 + s + p.1 * 4) = p.2
  | [], D, k, h, _, _ => fun p hp => nomatch hp
  | r :: l, D, k, h, hnd, hl512 => fun p hp hn => by
    obtain ⟨h1, h2, h3⟩ := writesW_alive (secsOf r.2 4) (1 + s + r.1 * 4) h
    rw [secsOf_len] at h2 h3
    have hl := writesW_len (secsOf r.2 4) D (1 + s + r.1 * 4)
    rw [List.map_cons, List.nodup_cons] at hnd
    rw [wrAll, if_pos h1]
    rcases List.mem_cons.1 hp with rfl | hp
    · rw [(wrAll_alive s l h2).2.2.2 p.1 (by rw [hl]; exact hn) fun q hq e => hnd.1 (by rw [← e]; exact List.mem_map_of_mem (f := (·.1)) hq)]
      refine page_secs (hl512 p (List.mem_cons_self ..)) fun i hi => ?_
      rw [h3 _ (by omega), if_pos (by omega), show 1 + s + p.1 * 4 + i - (1 + s + p.1 * 4) = i by omega]
    · exact wrAll_put s l h2 hnd.2 (fun q hq => hl512 q (List.mem_cons_of_mem _ hq)) p hp (by rw [hl]; exact hn)
theorem prs_nodup (c : PgM) : ∀ (m a : Nat), ((prsP c a m).map (·.1)).Nodup
  | 0, a => List.nodup_nil
  | m + 1, a => by
    have ih := prs_nodup c m (a + 1)
    rw [prsP]
    split
    · rw [List.map_cons, List.nodup_cons]
      refine ⟨fun hm => ?_, ih⟩
      obtain ⟨p, hp, e⟩ := List.mem_map.1 hm
      have := prs_mem hp
      have e2 : p.1 = a := e
      omega
    · exact ih
theorem prs_in {c : PgM} : ∀ {m a i : Nat} {b : Pg}, c i = some b → a ≤ i → i < a + m → (i, b) ∈ prsP c a m
  | 0, a, i, b, _, h1, h2 => by omega
  | m + 1, a, i, b, h, h1, h2 => by
    rw [prsP]
    by_cases e : a = i
    · subst e; rw [h]; exact List.mem_cons_self ..
    · have := prs_in (m := m) (a := a + 1) h (by omega) (by omega)
      split
      · exact List.mem_cons_of_mem _ this
      · exact this
theorem PlI.settle {P : Pl} {V : Nat → Pg} {k : Nat} (h : PlI P V k) (hk : k ≤ 1000000) : (settleR P).1 = 0 ∧ PlI (settleR P).2 V (k + 1) ∧ (settleR P).2.di = noP ∧ (settleR P).2.G = truncG P.G ∧ (settleR P).2.ch = P.ch ∧ (settleR P).2.n = P.n ∧ (settleR P).2.fr = P.fr ∧ (settleR P).2.D.V.length = P.D.V.length := by
  have hct := h.ct
  have hfit := h.ok.lg.fit
  obtain ⟨w1, w2, w3, w4⟩ := wrAll_alive P.G.size (prsP P.di 0 P.n) h.al
  have wl := wrAll_len P.G.size (prsP P.di 0 P.n) P.D
  obtain ⟨f1, f2⟩ := flush_alive w2
  obtain ⟨s1, s2, s3, s4⟩ := save_alive f2 (P.G.count + 1) (P.G.count + 1)
  have he : (settleR P).1 = 0 := by
    unfold settleR settleD
    rw [if_pos w1, if_pos f1]
    dsimp only
    unfold truncR
    rw [if_neg (by rw [h.gd]; simp), if_neg (by omega), if_pos s1]
  obtain ⟨k1, k2, k3, k4, k5, k6, k7, k8, k9, k10⟩ := settle_ok h.ok he
  obtain ⟨l1, l2, l3, l4, l5, l6, l7⟩ := settle_len P
  have hD : (settleR P).2.D = saveD (flushD (wrAll P.G.size P.D (prsP P.di 0 P.n)).1) (P.G.count + 1) (P.G.count + 1) := k10
  have hrd : ∀ n, n < P.n → pageD (settleR P).2.D (1 + P.G.size + n * 4) = V n := fun n hn => by
    have hr := (n_room h.ok hn).1
    have e1 : pageD (settleR P).2.D (1 + P.G.size + n * 4) = pageD (wrAll P.G.size P.D (prsP P.di 0 P.n)).1 (1 + P.G.size + n * 4) := by
      rw [hD]
      refine page_four fun i hi => ?_
      rw [s4 _ (by rw [flush_len, wl]; omega), if_neg (by omega), readF f1 (by rw [wl]; omega)]
    rw [e1]
    cases hd : P.di n with
    | some b =>
      have hm := prs_in (m := P.n) (a := 0) hd (Nat.zero_le _) (by omega)
      have := wrAll_put P.G.size _ h.al (prs_nodup P.di P.n 0) (fun p hp => h.ok.di _ _ (prs_mem hp).1) _ hm (by dsimp only; omega)
      rw [this]
      exact (h.dn n b hd).symm
    | none =>
      rw [w4 n hr fun p hp e => by have := (prs_mem hp).1; rw [e, hd] at this; cases this]
      exact h.pg n hn hd
  refine ⟨he, ⟨k1, by rw [hD]; exact s2, by rw [k4]; exact k5, by rw [l6]; exact h.de, by rw [k4]; show P.G.count + 1 ≤ _; omega, ?_, ?_, ?_, fun n hn => h.ln n (by rw [← l7]; exact hn)⟩, k3, k4, l3, l7, l5, l1⟩
  · intro n b hb; rw [k3] at hb; cases hb
  · intro c hc
    rw [l4] at hc
    obtain ⟨n, c1, c2, c3⟩ := h.cl c hc
    exact ⟨n, c1, by rw [k3]; rfl, c3⟩
  · intro n hn _
    rw [l2]
    exact hrd n (by rw [← l7]; exact hn)
theorem done_di (c : PgM) : ∀ (m a : Nat) (P : Pl) (n : Nat), (doneP P ((prsP c a m).map fun p => ⟨p.1, p.2⟩)).di n = if a ≤ n ∧ n < a + m then (c n).or (P.di n) else P.di n
  | 0, a, P, n => by rw [if_neg (by omega)]; rfl
  | m + 1, a, P, n => by
    rw [prsP]
    cases hc : c a with
    | some b =>
      have ih := done_di c m (a + 1) { P with di := updP P.di a (some b), cl := without P.cl (a : Int) } n
      have e : doneP P (((a, b) :: prsP c (a + 1) m).map fun p => (⟨p.1, p.2⟩ : Ch)) = doneP { P with di := updP P.di a (some b), cl := without P.cl (a : Int) } ((prsP c (a + 1) m).map fun p => ⟨p.1, p.2⟩) := rfl
      dsimp only
      rw [e, ih]
      dsimp only [updP]
      by_cases h1 : a + 1 ≤ n ∧ n < a + 1 + m
      · rw [if_pos h1, if_neg (show ¬ n = a by omega), if_pos (show a ≤ n ∧ n < a + (m + 1) by omega)]
      · rw [if_neg h1]
        by_cases h2 : n = a
        · subst h2; rw [if_pos rfl, if_pos (by omega), hc]; rfl
        · rw [if_neg h2, if_neg (by omega)]
    | none =>
      dsimp only
      rw [done_di c m (a + 1) P n]
      by_cases h1 : a + 1 ≤ n ∧ n < a + 1 + m
      · rw [if_pos h1, if_pos (by omega)]
      · rw [if_neg h1]
        by_cases h2 : n = a
        · subst h2; rw [if_pos (by omega), hc]; rfl
        · rw [if_neg (by omega)]
theorem done_cl : ∀ (R : Rec) (P : Pl) (c : Ch), c ∈ (doneP P R).cl → c ∈ P.cl ∧ ∀ r ∈ R, c.num ≠ r.num
  | [], P, c, h => ⟨h, fun r hr => nomatch hr⟩
  | r :: R, P, c, h => by
    obtain ⟨h1, h2⟩ := done_cl R { P with di := updP P.di r.num.toNat (some r.page), cl := without P.cl r.num } c h
    have h3 := List.mem_filter.1 h1
    refine ⟨h3.1, fun q hq => ?_⟩
    rcases List.mem_cons.1 hq with rfl | hq
    · have := h3.2
      simpa using this
    · exact h2 q hq
def viewC (P : Pl) (V : Nat → Pg) : Nat → Pg := fun n => if n < P.n then (P.ch n).getD (V n) else V n
theorem needW_row (G : Lg) {R : Rec} (h1 : 1 ≤ R.length) (h2 : R.length ≤ 60) : needW (R.length : Int) = ((rowW G R).length : Int) := by
  rw [rowW_len]
  unfold needW
  rw [if_pos (by omega), Int.toNat_natCast, Nat.mul_comm]
theorem may_rec {P : Pl} (h1 : 1 ≤ (recP P).length) (h2 : (recP P).length ≤ 60) (hn : P.n ≤ 2048) : mayR (recP P) = true := by
  rw [mayR, Bool.and_eq_true]
  refine ⟨decide_eq_true ⟨h1, h2⟩, List.all_eq_true.2 fun c hc => ?_⟩
  obtain ⟨p, hp, rfl⟩ := List.mem_map.1 hc
  have := prs_mem hp
  exact decide_eq_true (by show (0 : Int) ≤ (p.1 : Int) ∧ (p.1 : Int) < 2147483648; omega)
theorem commit_keep {P : Pl} {V : Nat → Pg} {k : Nat} (h : PlI P V k) (hk : k ≤ 1000000) (hn : P.n ≤ 2048) (hR1 : ¬ (recP P).length = 0) (hR2 : ¬ 60 < (recP P).length) (hfit : needW ((recP P).length : Int) ≤ ((P.G.size - P.G.at_ : Nat) : Int)) :
    (commitR P.D P.G (recP P)).1 = 0 ∧ PlI { doneP (putC P (recP P)) (recP P) with ch := noP } (viewC P V) k ∧ (putC P (recP P)).G = { P.G with at_ := P.G.at_ + (rowW P.G (recP P)).length, num := P.G.num + 1 } ∧ (putC P (recP P)).D.V.length = P.D.V.length ∧
      (putC P (recP P)).D = (putW P.D (1 + P.G.at_) (rowW P.G (recP P))).1 ∧ (putC P (recP P)).n = P.n := by
  have hlg := h.ok.lg
  have hat := hlg.at_
  have hrw := needW_row P.G (R := recP P) (by omega) (by omega)
  have hfit2 : P.G.at_ + (rowW P.G (recP P)).length ≤ P.G.size := by omega
  have hnum := hlg.num
  have hrl1 : 1 ≤ (rowW P.G (recP P)).length := by
    rw [rowW_len]; unfold needN manyN; omega
  have hca := commit_alive h.al h.gd (may_rec (P := P) (by omega) (by omega) hn) hfit2 hlg.fit
  obtain ⟨p1, p2, p3, p4⟩ := putW_alive (rowW P.G (recP P)) (1 + P.G.at_) h.al
  obtain ⟨d1, d2, d3, d4, d5, d6, d7, d8⟩ := doneP_same (recP P) (putC P (recP P))
  have eD : (putC P (recP P)).D = (putW P.D (1 + P.G.at_) (rowW P.G (recP P))).1 := by unfold putC; rw [hca]
  have eG : (putC P (recP P)).G = { P.G with at_ := P.G.at_ + (rowW P.G (recP P)).length, num := P.G.num + 1 } := by unfold putC; rw [hca]
  have en : (putC P (recP P)).n = P.n := by unfold Pl.n; rw [eD, eG, p3]
  have edi : ∀ n, (doneP (putC P (recP P)) (recP P)).di n = if n < P.n then (P.ch n).or (P.di n) else P.di n := fun n => by
    have := done_di P.ch P.n 0 (putC P (recP P)) n
    unfold recP at this ⊢
    rw [this]
    by_cases hnn : n < P.n
    · rw [if_pos (by omega), if_pos hnn]; rfl
    · rw [if_neg (by omega), if_neg hnn]; rfl
  refine ⟨by rw [hca], ⟨⟨?_, ?_, ?_, ?_, (fun i b hb => nomatch hb), ?_, ?_, ?_⟩, ?_, ?_, ?_, ?_, ?_, ?_, ?_, fun n hnn => ?_⟩, eG, by rw [eD, p3], eD, en⟩
  · show LgOk (doneP _ _).D (doneP _ _).G
    rw [d1, d2, eD, eG]
    exact ⟨hlg.s1, hlg.sc, hlg.cm, hlg.sz4, hlg.szm, hfit2, by show P.G.num + 1 ≤ P.G.at_ + _; omega, by rw [p3]; exact hlg.fit⟩
  · show 4 ≤ (doneP _ _).n
    rw [d6, en]; exact h.ok.n4
  · show 2 ≤ (doneP _ _).fr
    rw [d3]; exact h.ok.fr2
  · show (doneP _ _).fr ≤ 100
    rw [d3]; exact h.ok.frm
  · intro i b hb
    have hb2 : (doneP (putC P (recP P)) (recP P)).di i = some b := hb
    rw [edi] at hb2
    split at hb2
    · cases hc : P.ch i with
      | some x => rw [hc] at hb2; rw [← Option.some.inj hb2]; exact h.ok.ch i x hc
      | none => rw [hc] at hb2; exact h.ok.di i b hb2
    · exact h.ok.di i b hb2
  · exact d7 h.ok.cl
  · show (doneP _ _).cl.length ≤ (doneP _ _).fr
    rw [d3]; exact Nat.le_trans d8 h.ok.cll
  · show Alive (doneP _ _).D 1
    rw [d1, eD]; exact p2
  · show (doneP _ _).G.dead = false
    rw [d2, eG]; exact h.gd
  · show (doneP _ _).dead = false
    rw [d5]; exact h.de
  · show (doneP _ _).G.count ≤ k
    rw [d2, eG]; exact h.ct
  · intro n b hb
    have hb2 : (doneP (putC P (recP P)) (recP P)).di n = some b := hb
    rw [edi] at hb2
    unfold viewC
    split
    · rename_i hnn
      rw [if_pos hnn] at hb2
      cases hc : P.ch n with
      | some x => rw [hc] at hb2; exact Option.some.inj hb2
      | none => rw [hc] at hb2; exact h.dn n b hb2
    · rename_i hnn
      rw [if_neg hnn] at hb2
      exact h.dn n b hb2
  · intro c hc
    obtain ⟨c1, c2⟩ := done_cl (recP P) (putC P (recP P)) c hc
    obtain ⟨n, n1, n2, n3⟩ := h.cl c c1
    have hnc : n < P.n → P.ch n = none := fun hnn => by
      cases hcn : P.ch n with
      | none => rfl
      | some x =>
        have hm : (⟨(n : Int), x⟩ : Ch) ∈ recP P := List.mem_map.2 ⟨(n, x), prs_in hcn (Nat.zero_le _) (by omega), rfl⟩
        exact absurd n1 (c2 _ hm)
    refine ⟨n, n1, ?_, ?_⟩
    · show (doneP (putC P (recP P)) (recP P)).di n = none
      rw [edi]
      split
      · rw [hnc ‹_›]; exact n2
      · exact n2
    · unfold viewC
      split
      · rw [hnc ‹_›]; exact n3
      · exact n3
  · intro n hnn hdn
    have hnn2 : n < P.n := by
      have : (doneP (putC P (recP P)) (recP P)).n = P.n := by rw [d6, en]
      rw [← this]; exact hnn
    have hb2 : (doneP (putC P (recP P)) (recP P)).di n = none := hdn
    rw [edi, if_pos hnn2] at hb2
    have hr := (n_room h.ok hnn2).1
    show pageD (doneP _ _).D (1 + (doneP _ _).G.size + n * 4) = _
    rw [d1, d2, eD, eG]
    have e1 : pageD (putW P.D (1 + P.G.at_) (rowW P.G (recP P))).1 (1 + P.G.size + n * 4) = pageD P.D (1 + P.G.size + n * 4) := page_four fun i hi => by
      rw [p4 _ (by omega), if_neg (by omega)]
    unfold viewC
    rw [if_pos hnn2]
    cases hc : P.ch n with
    | some x => rw [hc] at hb2; cases hb2
    | none =>
      rw [hc] at hb2
      show pageD _ _ = V n
      dsimp only
      rw [e1]
      exact h.pg n hnn2 hb2
  · have hnn2 : n < P.n := by
      have : (doneP (putC P (recP P)) (recP P)).n = P.n := by rw [d6, en]
      rw [← this]; exact hnn
    unfold viewC
    rw [if_pos hnn2]
    cases hc : P.ch n with
    | some x => exact h.ok.ch n x hc
    | none => exact h.ln n hnn2
end Go.Proofs.YtielfpkjoidomaaGreat
namespace Go.Proofs.YtielfpkjoidomaaGreat
open Go Go.RowKit Coup
theorem zeroP_len : zeroP.length = 512 := List.length_replicate ..
theorem frP_inv {pages s fr : Nat} (h4 : 4 ≤ s) (hs : s ≤ 4000) (hp : pages ≤ 500) (hp4 : 4 ≤ pages) (h2 : 2 ≤ fr) (hm : fr ≤ 100) : PlI (frP pages s fr) (fun _ => zeroP) 2 := by
  obtain ⟨a1, a2, a3, a4⟩ := frP_all fr h4 hs hp
  refine ⟨frP_ok h4 hs hp hp4 h2 hm, a1, rfl, rfl, Nat.le_refl _, (fun n b h => nomatch h), (fun c hc => nomatch hc), fun n hn _ => ?_, fun _ _ => zeroP_len⟩
  rw [a3] at hn
  refine page_secs zeroP_len fun i hi => ?_
  show readD (frP pages s fr).D (1 + s + n * 4 + i) = _
  rw [a4 _ (by omega), if_neg (by omega), zp_secs]
theorem pageB7 : pageB [7] ≠ zeroP := fun e => by
  have h : (pageB [7])[0]? = zeroP[0]? := by rw [e]
  rw [pageB, if_pos (by simp), fillB, List.getElem?_map, List.getElem?_range (by omega), zeroP, List.getElem?_replicate, if_pos (by omega)] at h
  revert h
  decide
section
variable {Y : World → List Nat → Prop} [Thing Y] {lo : Nat} {L : List Nat} {w : World}
set_option maxRecDepth 20000 in
set_option maxHeartbeats 1000000 in
theorem begunC (h : Two Y None lo L w) (pages s fr : Nat) (hp4 : 4 ≤ pages) (hp : pages ≤ 500) (h4 : 4 ≤ s) (hs : s ≤ 4000) (h2 : 2 ≤ fr) (hm : fr ≤ 100) :
    Calls Tryz.prog 11 [.int .i64 (pages : Int), .int .i64 (s : Int), .int .i64 (fr : Int)].toArray w (Ret fun v w' => (∃ g x q mc md cv, v = .tuple #[.pointer (some ⟨g, 0, none⟩), .pointer (some ⟨q, 0, none⟩), .bool true] ∧ PlAt g x q mc md cv cv Y lo L (frP pages s fr) w') ∧ LoL lo L w w') := by
  have hLL := LoL.refl lo L w
  have hN := newC (w := w) (1 + s + 4 * pages) (by omega) (by omega)
  rw [show ((1 + s + 4 * pages : Nat) : Int) = 1 + (s : Int) + 4 * (pages : Int) by omega] at hN
  have hfm := fun g w' (h' : Two (DZ g (newD (1 + s + 4 * pages))) Y lo L w') => formatP h' (s : Int) ⟨by omega, by omega⟩ ((alive_new (n := 1 + s + 4 * pages) (by omega)).weak (by omega))
  have hcn := cnt_fr (pages := pages) h4 hs
  simp only [newD_len, hcn, if_neg (show ¬ pages < 4 by omega), Int.toNat_natCast] at hfm
  obtain ⟨a1, a2, a3⟩ := frD_all h4 hs hp
  obtain ⟨b1, b2, b3, b4⟩ := frD_open h4 hs hp
  obtain ⟨c1, c2⟩ := frP_open fr h4 hs hp
  have hop := fun g w' (h' : Two (DZ g (frD pages s)) Y lo L w') => (openOk h' s fr (by rw [a2, hcn]; omega) ⟨h2, hm⟩ b1 (short_of a1.short (by omega)) c1).to fun v w'' ⟨hh, k⟩ => (show (∃ x q mc md cv, v = Value.tuple #[Value.pointer (some ⟨q, 0, none⟩), Value.int .i64 0] ∧ PlAt g x q mc md cv cv Y lo L (frP pages s fr) w'') ∧ LoL lo L w' w'' from by
    rw [c2] at hh
    rcases hh with ⟨h1, _⟩ | ⟨_, x, q, mc, md, cv, e, hP⟩
    · exact absurd rfl h1
    · exact ⟨⟨x, q, mc, md, cv, e, hP⟩, k⟩)
  have hfe : fmtD (zpD (newD (1 + s + 4 * pages)) s pages) s = frD pages s := rfl
  rw [hfe] at hfm
  generalize frD pages s = D1 at *
  refine calls_W (fn := Tryz.f11) (rs := [.tmp 6, .tmp 7, .tmp 8]) (n := 41) Tryz.func11 rfl rfl Tryz.ntmps11 (by kernel_rfl) rfl ?_
  refine W_seq ?_
  refine W_region ?_
  refine WR_val rfl (rn_assign) ?_
  refine WR_val rfl (rn_assign) ?_
  refine WR_val rfl (rn_assign) ?_
  refine WR_nil ?_
  refine thenN ?_
  refine W_seq ?_
  refine W_region ?_
  refine WR_val rfl (rn_move) ?_
  refine WR_val rfl (rn_add rfl rfl (Coup.w64 (by omega))) ?_
  refine WR_val rfl (rn_move) ?_
  refine WR_val rfl (rn_mul rfl rfl (Coup.w64 (by omega))) ?_
  refine WR_val rfl (rn_add rfl rfl (Coup.w64 (by omega))) ?_
  refine WR_ent rfl (rn_call (by kernel_rfl) rfl) (hN) ?_
  rintro _ w19 ⟨g, B, rfl, hX, hBf, hb19⟩
  have hT := (h.add (Y := DZ g (newD (1 + s + 4 * pages))) hb19 hX hBf).swap
  replace hLL := hLL.new hb19
  refine WR_val rfl (rn_move) ?_
  refine WR_val rfl (rn_extract rfl rfl) ?_
  refine WR_val rfl (rn_extract rfl rfl) ?_
  refine WR_val rfl (rn_assign) ?_
  refine WR_val rfl (rn_assign) ?_
  refine WR_nil ?_
  refine thenN ?_
  refine W_seq ?_
  refine W_seq ?_
  refine W_region ?_
  refine WR_val rfl (rn_move) ?_
  refine WR_val rfl (rn_neq rfl rfl) ?_
  refine WR_val rfl (rn_move) ?_
  refine WR_fp 24 rfl ((by simp)) ?_
  refine WR_yes rfl ?_
  refine WR_val rfl (rn_move) ?_
  refine WR_yes rfl ?_
  refine WR_val rfl (rn_move) ?_
  refine WR_yes rfl ?_
  refine WR_ent rfl (rn_call (by kernel_rfl) rfl) (hfm g w19 hT) ?_
  rintro _ w27 ⟨rfl, hT, hb27⟩
  replace hLL := hLL.ll hb27 (by first | (intro b hb; exact hb) | (intro b hb; simp [hb]; done) | simp)
  refine WR_yes rfl ?_
  refine WR_val rfl (rn_neq rfl rfl) ?_
  refine WR_val rfl (rn_pick_f rfl) ?_
  refine WR_nil ?_
  refine thenN ?_
  refine W_fp rfl ((by simp)) ?_
  refine W_skip ?_
  refine thenN ?_
  refine W_seq ?_
  refine W_region ?_
  refine WR_val rfl (rn_move) ?_
  refine WR_val rfl (rn_move) ?_
  refine WR_val rfl (rn_move) ?_
  refine WR_ent rfl (rn_call (by kernel_rfl) rfl) (hop g w27 hT) ?_
  rintro _ w34 ⟨⟨x, q, mc, md, cv, rfl, hP⟩, hb34⟩
  replace hLL := hLL.ll hb34 (by first | (intro b hb; exact hb) | (intro b hb; simp [hb]; done) | simp)
  refine WR_val rfl (rn_move) ?_
  refine WR_val rfl (rn_extract rfl rfl) ?_
  refine WR_val rfl (rn_extract rfl rfl) ?_
  refine WR_val rfl (rn_assign) ?_
  refine WR_val rfl (rn_assign) ?_
  refine WR_nil ?_
  refine thenN ?_
  refine W_seq ?_
  refine W_region ?_
  refine WR_val rfl (rn_move) ?_
  refine WR_val rfl (rn_move) ?_
  refine WR_val rfl (rn_move) ?_
  refine WR_val rfl (rn_eql rfl rfl) ?_
  refine WR_val rfl (rn_assign) ?_
  refine WR_val rfl (rn_assign) ?_
  refine WR_val rfl (rn_assign) ?_
  refine WR_nil ?_
  refine thenN ?_
  refine W_ret ?_
  refine ret_ret [_, _, _] ⟨rfl, rfl, rfl, trivial⟩ ?_
  exact ⟨⟨g, x, q, mc, md, cv, rfl, hP⟩, hLL⟩
end
def k1 (K : Pl) (X : Pg) : Pl := putP K 1 X
def k2 (K : Pl) (X : Pg) : Pl := { k1 K X with ch := noP }
def k3 (K : Pl) (X : Pg) : Pl := getP (k2 K X) 1
def k4 (K : Pl) (X : Pg) : Pl := putP (k3 K X) 1 X
def k5 (K : Pl) (X : Pg) : Pl := { doneP (putC (k4 K X) (recP (k4 K X))) (recP (k4 K X)) with ch := noP }
def k6 (K : Pl) (X : Pg) : Pl := getP (k5 K X) 1
theorem askP_keeps {P : Pl} {n : Nat} : (askP P n).n = P.n ∧ (askP P n).ch = P.ch ∧ (askP P n).di = P.di ∧ (askP P n).G = P.G := by
  obtain ⟨h1, h2, h3, h4, h5, h6, h7⟩ := askP_same P n
  exact ⟨h7, h4, h5, h2⟩
theorem getP_keeps {P : Pl} {n : Nat} : (getP P n).n = P.n ∧ (getP P n).ch = P.ch ∧ (getP P n).di = P.di ∧ (getP P n).G = P.G := by
  unfold getP
  split
  · exact ⟨rfl, rfl, rfl, rfl⟩
  · exact askP_keeps
section
variable {K : Pl} {X Z : Pg}
structure KOk (K : Pl) (X Z : Pg) : Prop where
  i : PlI K (fun _ => Z) 2
  n : K.n = 5
  g : K.G = ⟨2, 1, 12, 0, 0, false⟩
  di : K.di = noP
  xl : X.length = 512
  xz : X ≠ Z
namespace KOk
theorem i0 (h : KOk K X Z) : 1 < K.n := by rw [h.n]; omega
theorem n1 (h : KOk K X Z) : (k1 K X).n = 5 := (askP_keeps (P := K) (n := 1)).1.trans h.n
theorem i1 (h : KOk K X Z) : PlI (k1 K X) (fun _ => Z) 2 := h.i.putP h.i0 h.xl
theorem i2 (h : KOk K X Z) : PlI (k2 K X) (fun _ => Z) 2 := h.i1.setCh noP (fun i b h => nomatch h)
theorem n2 (h : KOk K X Z) : (k2 K X).n = 5 := h.n1
theorem l2 (h : KOk K X Z) : 1 < (k2 K X).n := by rw [h.n2]; omega
theorem i3 (h : KOk K X Z) : PlI (k3 K X) (fun _ => Z) 2 := h.i2.getP h.l2
theorem n3 (h : KOk K X Z) : (k3 K X).n = 5 := (getP_keeps (P := k2 K X) (n := 1)).1.trans h.n2
theorem l3 (h : KOk K X Z) : 1 < (k3 K X).n := by rw [h.n3]; omega
theorem i4 (h : KOk K X Z) : PlI (k4 K X) (fun _ => Z) 2 := h.i3.putP h.l3 h.xl
theorem n4 (h : KOk K X Z) : (k4 K X).n = 5 := (askP_keeps (P := k3 K X) (n := 1)).1.trans h.n3
theorem g4 (h : KOk K X Z) : (k4 K X).G = ⟨2, 1, 12, 0, 0, false⟩ := by
  have h1 := (askP_keeps (P := k3 K X) (n := 1)).2.2.2
  have h2 := (getP_keeps (P := k2 K X) (n := 1)).2.2.2
  have h3 := (askP_keeps (P := K) (n := 1)).2.2.2
  exact h1.trans (h2.trans (h3.trans h.g))
theorem d4 (h : KOk K X Z) : (k4 K X).di = noP := by
  have h1 := (askP_keeps (P := k3 K X) (n := 1)).2.2.1
  have h2 := (getP_keeps (P := k2 K X) (n := 1)).2.2.1
  have h3 := (askP_keeps (P := K) (n := 1)).2.2.1
  exact h1.trans (h2.trans (h3.trans h.di))
theorem c4 (h : KOk K X Z) : (k4 K X).ch = updP noP 1 (some X) := by
  have h2 : (k3 K X).ch = noP := (getP_keeps (P := k2 K X) (n := 1)).2.1
  have h3 := h.i3.ask h.l3
  show updP (k3 K X).ch 1 (if X = askX (k3 K X) 1 then none else some X) = _
  rw [h2, h3, if_neg h.xz]
theorem r4 (h : KOk K X Z) : recP (k4 K X) = [⟨1, X⟩] := by
  unfold recP
  rw [h.n4, h.c4]
  rfl
theorem com (h : KOk K X Z) : commitP (k4 K X) = (0, k5 K X) ∧ PlI (k5 K X) (viewC (k4 K X) fun _ => Z) 2 ∧ (k5 K X).n = 5 ∧ (k5 K X).G.size - (k5 K X).G.at_ = 6 ∧ keysP (k5 K X).di 5 = [1] := by
  have hr4 := h.r4
  have hn60 : needW (((recP (k4 K X)).length : Nat) : Int) = 6 := by
    rw [hr4]
    show needW ((1 : Nat) : Int) = 6
    unfold needW
    rw [if_pos (by decide)]
    rfl
  have hg := h.g4
  have hd := h.d4
  have hi := h.i4
  have hn4 := h.n4
  unfold k5
  generalize k4 K X = K4 at *
  have hfit : needW ((recP K4).length : Int) ≤ ((K4.G.size - K4.G.at_ : Nat) : Int) := by rw [hn60, hg]; decide
  obtain ⟨c1, c2, c3, c4, c5, c6⟩ := commit_keep hi (by omega) (by rw [hn4]; omega) (by rw [hr4]; simp) (by rw [hr4]; simp) hfit
  have hrl := needW_row K4.G (R := recP K4) (by rw [hr4]; simp) (by rw [hr4]; simp)
  rw [hn60] at hrl
  obtain ⟨d1, d2, d3, d4, d5, d6, d7, d8⟩ := doneP_same (recP K4) (putC K4 (recP K4))
  refine ⟨?_, c2, ?_, ?_, ?_⟩
  · have hroom : roomR K4 = (0, K4) := by unfold roomR; rw [if_neg (by omega)]
    unfold commitP
    rw [hroom, if_neg (by rw [hr4]; simp), if_neg (by rw [hr4]; simp), if_neg (by rw [hn60, hg]; decide), if_pos rfl, if_pos c1]
  · show (doneP _ _).n = 5
    rw [d6, c6, hn4]
  · show (doneP _ _).G.size - (doneP _ _).G.at_ = 6
    rw [d2, c3, hg]
    show 12 - (0 + (rowW _ _).length) = 6
    rw [hg] at hrl
    omega
  · show keysP (doneP (putC K4 (recP K4)) (recP K4)).di 5 = [1]
    have e : (doneP (putC K4 (recP K4)) (recP K4)).di = updP noP 1 (some X) := by
      rw [hr4, ← hd]
      rfl
    rw [e]
    rfl
theorem n6 (h : KOk K X Z) : (k6 K X).n = 5 ∧ (k6 K X).di = (k5 K X).di ∧ (k6 K X).G = (k5 K X).G := by
  obtain ⟨h1, h2, h3, h4⟩ := getP_keeps (P := k5 K X) (n := 1)
  exact ⟨h1.trans h.com.2.2.1, h3, h4⟩
theorem get2 (h : KOk K X Z) : getX (k2 K X) 1 = Z := h.i2.getX h.l2
theorem l5 (h : KOk K X Z) : 1 < (k5 K X).n := by rw [h.com.2.2.1]; omega
theorem get5 (h : KOk K X Z) : getX (k5 K X) 1 = X := by
  rw [h.com.2.1.getX h.l5]
  have e : (k5 K X).ch = noP := rfl
  rw [e]
  show viewC (k4 K X) (fun _ => Z) 1 = X
  unfold viewC
  rw [h.n4, if_pos (by omega), h.c4]
  rfl
theorem i6 (h : KOk K X Z) : PlI (k6 K X) (viewC (k4 K X) fun _ => Z) 2 := h.com.2.1.getP h.l5
end KOk
end
set_option maxRecDepth 20000 in
set_option maxHeartbeats 2000000 in
theorem known06 (w : World) : Calls Tryz.prog 10 [].toArray w (Ret fun v w' => v = .bool true ∧ Below w.heap.size w w') := by
  have hLL := LoL.refl w.heap.size [] w
  have hml : maxLen = 9223372036854775807 := by decide
  have hN0 : Two None None w.heap.size [] w := ⟨⟨[], [], rfl, rfl, (fun b hb => nomatch hb), fun b hb => nomatch hb⟩, Nat.le_refl _, fun b hb => nomatch hb⟩
  have hbg := begunC hN0 5 12 2 (by omega) (by omega) (by omega) (by omega) (by omega) (by omega)
  have hKi : PlI (frP 5 12 2) (fun _ => zeroP) 2 := frP_inv (by omega) (by omega) (by omega) (by omega) (by omega) (by omega)
  have hKn : (frP 5 12 2).n = 5 := (frP_all (pages := 5) (s := 12) 2 (by omega) (by omega) (by omega)).2.2.1
  have hKg : (frP 5 12 2).G = ⟨2, 1, 12, 0, 0, false⟩ := rfl
  have hKd : (frP 5 12 2).di = noP := rfl
  have hpg := fun p w' (h : SlAt w' p 1 1 (bv [7])) => page06 [7] p 1 1 w' h
  have hZbz : bv zeroP = List.replicate 512 (.int .u8 0) := by kernel_rfl
  have hzl := zeroP_len
  have hXl : (pageB [7]).length = 512 := pageB_len _
  have hXZ := pageB7
  generalize frP 5 12 2 = K at *
  generalize pageB [7] = X at *
  generalize zeroP = Z at *
  have hK : KOk K X Z := ⟨hKi, hKn, hKg, hKd, hXl, hXZ⟩
  have hpags := fun g x q mc md cv L w' (h : PlAt g x q mc md cv cv None w.heap.size L K w') => pagesP h hKi.ok.lg.szm
  rw [hKn] at hpags
  have hcnt := fun g x q mc md cv L w' (h : PlAt g x q mc md cv cv None w.heap.size L K w') => countP h.lg.fst 12 ⟨by omega, by omega⟩
  have hc5 : cntP K.D.V.length 12 = 5 := by
    have h1 := hKn
    unfold Pl.n at h1
    rw [hKg] at h1
    exact h1
  rw [hc5] at hcnt
  have hp0 := fun g x q mc md cv L w' (h : PlAt g x q mc md cv cv None w.heap.size L K w') => putYes h hKi.ok hKi.de 1 hK.i0 X hXl
  have ha1 := fun g x q mc md cv L w' (h : PlAt g x q mc md cv cv None w.heap.size L (k1 K X) w') => (abortP h hK.i1.ok).to fun v w'' hh => (show v = Value.int .i64 0 ∧ PlAt g x q mc md cv cv None w.heap.size L (k2 K X) w'' ∧ LoL w.heap.size L w' w'' from by
    have hd := hK.i1.de
    obtain ⟨e1, e2, e3⟩ := hh
    rw [if_neg (by rw [hd]; simp)] at e1 e2
    exact ⟨e1, e2, e3⟩)
  have hgetA := fun g x q mc md cv L w' (h : PlAt g x q mc md cv cv None w.heap.size L (k2 K X) w') => getYes h hK.i2.ok hK.i2.de 1 hK.l2
  rw [hK.get2] at hgetA
  have hp3 := fun g x q mc md cv L w' (h : PlAt g x q mc md cv cv None w.heap.size L (k3 K X) w') => putYes h hK.i3.ok hK.i3.de 1 hK.l3 X hXl
  have hc4 := fun g x q mc md cv L w' (h : PlAt g x q mc md cv cv None w.heap.size L (k4 K X) w') => commitYes h hK.i4.ok hK.i4.de (short_of hK.i4.al.short (by omega))
  rw [hK.com.1] at hc4
  dsimp only at hc4
  have hgetB := fun g x q mc md cv L w' (h : PlAt g x q mc md cv cv None w.heap.size L (k5 K X) w') => getYes h hK.com.2.1.ok hK.com.2.1.de 1 hK.l5
  rw [hK.get5] at hgetB
  have hd6 := fun g x q mc md cv L w' (h : PlAt g x q mc md cv cv None w.heap.size L (k6 K X) w') => dirtyP h
  rw [hK.n6.1, hK.n6.2.1, hK.com.2.2.2.2] at hd6
  have hr6 := fun g x q mc md cv L w' (h : PlAt g x q mc md cv cv None w.heap.size L (k6 K X) w') => roomP h hK.i6.ok.lg
  rw [hK.n6.2.2, hK.com.2.2.2.1] at hr6
  have hXb : (bv X).length = 512 := by rw [bv_length]; exact hXl
  have hZb : (bv Z).length = 512 := by rw [bv_length]; exact hzl
  change ∀ g x q mc md cv L w', PlAt g x q mc md cv cv None w.heap.size L K w' → Calls _ _ _ _ (Ret fun v w'_1 => v = _ ∧ (∃ cv', PlAt g x q mc md cv' cv' None w.heap.size L (k1 K X) w'_1) ∧ _) at hp0
  change ∀ g x q mc md cv L w', PlAt g x q mc md cv cv None w.heap.size L (k2 K X) w' → Calls _ _ _ _ (Ret fun v w'_1 => v = _ ∧ (∃ cv', PlAt g x q mc md cv' cv' None w.heap.size L (k3 K X) w'_1) ∧ _) at hgetA
  change ∀ g x q mc md cv L w', PlAt g x q mc md cv cv None w.heap.size L (k3 K X) w' → Calls _ _ _ _ (Ret fun v w'_1 => v = _ ∧ (∃ cv', PlAt g x q mc md cv' cv' None w.heap.size L (k4 K X) w'_1) ∧ _) at hp3
  change ∀ g x q mc md cv L w', PlAt g x q mc md cv cv None w.heap.size L (k5 K X) w' → Calls _ _ _ _ (Ret fun v w'_1 => v = _ ∧ (∃ cv', PlAt g x q mc md cv' cv' None w.heap.size L (k6 K X) w'_1) ∧ _) at hgetB
  clear hK hKi hKn hKg hKd hc5
  generalize k1 K X = K1 at *
  generalize k2 K X = K2 at *
  generalize k3 K X = K3 at *
  generalize k4 K X = K4 at *
  generalize k5 K X = K5 at *
  generalize k6 K X = K6 at *
  refine Calls.to (R := fun v w' => v = .bool true ∧ LoL w.heap.size [] w w') ?_ (fun v w' hh => ⟨hh.1, belLL (Below.refl _ _) hh.2 (Nat.le_refl _)⟩)
  refine calls_W (fn := Tryz.f10) (rs := [.tmp 0]) (n := 83) Tryz.func10 rfl rfl Tryz.ntmps10 (by kernel_rfl) rfl ?_
  refine W_seq ?_
  refine W_region ?_
  refine WR_val rfl (rn_assign) ?_
  refine WR_nil ?_
  refine thenN ?_
  refine W_seq ?_
  refine W_region ?_
  refine WR_ent rfl (rn_call (by kernel_rfl) rfl) (hbg) ?_
  rintro _ w10 ⟨⟨g, x, q, mc, md, cv, rfl, h⟩, hb10⟩
  replace hLL := hLL.ll hb10 (by first | (intro b hb; exact hb) | (intro b hb; simp [hb]; done) | simp)
  refine WR_val rfl (rn_move) ?_
  refine WR_val rfl (rn_extract rfl rfl) ?_
  refine WR_val rfl (rn_extract rfl rfl) ?_
  refine WR_val rfl (rn_extract rfl rfl) ?_
  refine WR_val rfl (rn_assign) ?_
  refine WR_val rfl (rn_assign) ?_
  refine WR_val rfl (rn_assign) ?_
  refine WR_nil ?_
  refine thenN ?_
  refine W_seq ?_
  refine W_seq ?_
  refine W_region ?_
  refine WR_val rfl (rn_move) ?_
  refine WR_val rfl (rn_not rfl) ?_
  refine WR_val rfl (rn_move) ?_
  refine WR_fnb 16 rfl (rfl) ?_
  refine WR_yes rfl ?_
  refine WR_val rfl (rn_move) ?_
  refine WR_yes rfl ?_
  refine WR_ent rfl (rn_call (by kernel_rfl) rfl) (hpags g x q mc md cv _ w10 h) ?_
  rintro _ w18 ⟨rfl, hb18⟩
  replace hLL := hLL.new hb18
  replace h := h.new hb18
  refine WR_yes rfl ?_
  refine WR_val rfl (rn_neq rfl rfl) ?_
  refine WR_val rfl (rn_pick_f rfl) ?_
  refine WR_val rfl (rn_move) ?_
  refine WR_fp 21 rfl ((by simp)) ?_
  refine WR_yes rfl ?_
  refine WR_val rfl (rn_move) ?_
  refine WR_yes rfl ?_
  refine WR_ent rfl (rn_call (by kernel_rfl) rfl) (hcnt g x q mc md cv _ w18 h) ?_
  rintro _ _ ⟨rfl, rfl⟩
  refine WR_yes rfl ?_
  refine WR_val rfl (rn_neq rfl rfl) ?_
  refine WR_val rfl (rn_pick_f rfl) ?_
  refine WR_nil ?_
  refine thenN ?_
  refine W_fp rfl ((by simp)) ?_
  refine W_skip ?_
  refine thenN ?_
  refine W_seq ?_
  refine W_region ?_
  refine WR_mk rfl (mk_one (e := 5) (.int .u8 7) ([.int .u8 7]) ([Value.int .u8 0]) 1 (by kernel_rfl) (by kernel_rfl) rfl rfl rfl ⟨by decide, by decide⟩ (fun g26 w26 hg26 hr26 hb26 => ?_))
  replace hLL := hLL.new hb26
  replace h := h.newc hb26 hg26 hr26.lt
  have hs26 : SlAt w26 (some ⟨g26, 0, none⟩) 1 1 (bv [7]) := hr26.slA (m := 1) (sz := 1) rfl (by omega)
  refine WR_ent rfl (rn_call (by kernel_rfl) rfl) (hpg _ w26 hs26) ?_
  rintro _ w27 ⟨rfl, hb27⟩
  replace hLL := hLL.new hb27
  replace h := h.new hb27
  replace hr26 := hr26.new hb27
  have hz4 := hLL.size
  refine WR_mk rfl (mk_alloc (List.replicate 512 (Value.int .u8 0)) (by kernel_rfl) (fun g4 w4 hg4 hr4 hb4 => ?_))
  have lt_g26_g4 : g26 < g4 := Nat.lt_of_lt_of_le hr26.lt hg4
  replace hLL := hLL.new hb4
  replace h := h.newc hb4 hg4 hr4.lt
  replace hr26 := hr26.new hb4
  refine WR_sk rfl (sk_storeA 512 (bv X) rfl rfl hr4 (by kernel_rfl) (by first | assumption | (simp; done) | (simp [bv_length, *]; done)) (by first | assumption | (simp; done) | (simp [bv_length, *]; done) | rfl) (by first | exact bv_one _ | assumption | (simp [Value.oneCell']; done)) (fun w901 hr4 ho901 => ?_))
  replace hLL := hLL.only ho901 (by first | omega | (right; exact ⟨by omega, by assumption⟩))
  replace h := h.only ho901 (by first | (right; simp; done) | (left; omega))
  replace hr26 := hr26.only ho901 (Nat.ne_of_lt lt_g26_g4)
  refine WR_nil ?_
  refine thenN ?_
  refine W_seq ?_
  refine W_seq ?_
  refine W_region ?_
  refine WR_val rfl (rn_move) ?_
  refine WR_val rfl (rn_load rfl (Ld.rowA (k := 512) hr4 (by kernel_rfl) (by kernel_rfl) (by first | (simp; done) | (simp [bv_length, *]; done) | assumption))) ?_
  refine WR_ent rfl (rn_call (by kernel_rfl) rfl) (hp0 g x q mc md cv _ w901 h) ?_
  rintro _ w30 ⟨rfl, ⟨cv1, h⟩, hb30⟩
  replace hLL := hLL.ll hb30 (by first | (intro b hb; exact hb) | (intro b hb; simp [hb]; done) | simp)
  replace hr26 := hr26.kpd hb30.kp (by first | (refine notLL ?_; left; omega) | (refine notLL ?_; right; simp; done) | (intro b o e; cases e; first | (refine notLL ?_; left; omega) | (refine notLL ?_; right; simp; done) | (refine notLL ?_; right; simp [*]; done)) | (intro b hb; refine notLL ?_; left; omega) | (intro b hb e; cases e; exact notLL (by right; simp [*]) hb))
  replace hr4 := hr4.kpd hb30.kp (by first | (refine notLL ?_; left; omega) | (refine notLL ?_; right; simp; done) | (intro b o e; cases e; first | (refine notLL ?_; left; omega) | (refine notLL ?_; right; simp; done) | (refine notLL ?_; right; simp [*]; done)) | (intro b hb; refine notLL ?_; left; omega) | (intro b hb e; cases e; exact notLL (by right; simp [*]) hb))
  refine WR_val rfl (rn_neq rfl rfl) ?_
  refine WR_val rfl (rn_move) ?_
  refine WR_fp 32 rfl ((by simp)) ?_
  refine WR_yes rfl ?_
  refine WR_val rfl (rn_move) ?_
  refine WR_yes rfl ?_
  refine WR_ent rfl (rn_call (by kernel_rfl) rfl) (ha1 g x q mc md cv1 _ w30 h) ?_
  rintro _ w34 ⟨rfl, h, hb34⟩
  replace hLL := hLL.ll hb34 (by first | (intro b hb; exact hb) | (intro b hb; simp [hb]; done) | simp)
  replace hr26 := hr26.kpd hb34.kp (by first | (refine notLL ?_; left; omega) | (refine notLL ?_; right; simp; done) | (intro b o e; cases e; first | (refine notLL ?_; left; omega) | (refine notLL ?_; right; simp; done) | (refine notLL ?_; right; simp [*]; done)) | (intro b hb; refine notLL ?_; left; omega) | (intro b hb e; cases e; exact notLL (by right; simp [*]) hb))
  replace hr4 := hr4.kpd hb34.kp (by first | (refine notLL ?_; left; omega) | (refine notLL ?_; right; simp; done) | (intro b o e; cases e; first | (refine notLL ?_; left; omega) | (refine notLL ?_; right; simp; done) | (refine notLL ?_; right; simp [*]; done)) | (intro b hb; refine notLL ?_; left; omega) | (intro b hb e; cases e; exact notLL (by right; simp [*]) hb))
  refine WR_yes rfl ?_
  refine WR_val rfl (rn_neq rfl rfl) ?_
  refine WR_val rfl (rn_pick_f rfl) ?_
  refine WR_nil ?_
  refine thenN ?_
  refine W_fp rfl ((by simp)) ?_
  refine W_skip ?_
  refine thenN ?_
  refine W_seq ?_
  refine W_region ?_
  refine WR_val rfl (rn_move) ?_
  refine WR_ent rfl (rn_call (by kernel_rfl) rfl) (hgetA g x q mc md cv1 _ w34 h) ?_
  rintro _ w39 ⟨rfl, ⟨cv2, h⟩, hb39⟩
  replace hLL := hLL.ll hb39 (by first | (intro b hb; exact hb) | (intro b hb; simp [hb]; done) | simp)
  replace hr26 := hr26.kpd hb39.kp (by first | (refine notLL ?_; left; omega) | (refine notLL ?_; right; simp; done) | (intro b o e; cases e; first | (refine notLL ?_; left; omega) | (refine notLL ?_; right; simp; done) | (refine notLL ?_; right; simp [*]; done)) | (intro b hb; refine notLL ?_; left; omega) | (intro b hb e; cases e; exact notLL (by right; simp [*]) hb))
  replace hr4 := hr4.kpd hb39.kp (by first | (refine notLL ?_; left; omega) | (refine notLL ?_; right; simp; done) | (intro b o e; cases e; first | (refine notLL ?_; left; omega) | (refine notLL ?_; right; simp; done) | (refine notLL ?_; right; simp [*]; done)) | (intro b hb; refine notLL ?_; left; omega) | (intro b hb e; cases e; exact notLL (by right; simp [*]) hb))
  refine WR_val rfl (rn_move) ?_
  refine WR_val rfl (rn_extract rfl rfl) ?_
  refine WR_val rfl (rn_extract rfl rfl) ?_
  have hz5 := hLL.size
  refine WR_mk rfl (mk_alloc (List.replicate 512 (Value.int .u8 0)) (by kernel_rfl) (fun g5 w5 hg5 hr5 hb5 => ?_))
  have lt_g26_g5 : g26 < g5 := Nat.lt_of_lt_of_le hr26.lt hg5
  have lt_g4_g5 : g4 < g5 := Nat.lt_of_lt_of_le hr4.lt hg5
  replace hLL := hLL.new hb5
  replace h := h.newc hb5 hg5 hr5.lt
  replace hr26 := hr26.new hb5
  replace hr4 := hr4.new hb5
  refine WR_sk rfl (sk_storeA 512 (bv Z) rfl rfl hr5 (by kernel_rfl) (by first | assumption | (simp; done) | (simp [bv_length, *]; done)) (by first | assumption | (simp; done) | (simp [bv_length, *]; done) | rfl) (by first | exact bv_one _ | assumption | (simp [Value.oneCell']; done)) (fun w902 hr5 ho902 => ?_))
  replace hLL := hLL.only ho902 (by first | omega | (right; exact ⟨by omega, by assumption⟩))
  replace h := h.only ho902 (by first | (right; simp; done) | (left; omega))
  replace hr26 := hr26.only ho902 (Nat.ne_of_lt lt_g26_g5)
  replace hr4 := hr4.only ho902 (Nat.ne_of_lt lt_g4_g5)
  refine WR_val rfl (rn_assign) ?_
  refine WR_nil ?_
  refine thenN ?_
  refine W_seq ?_
  refine W_seq ?_
  refine W_region ?_
  refine WR_val rfl (rn_move) ?_
  refine WR_val rfl (rn_neq rfl rfl) ?_
  refine WR_val rfl (rn_move) ?_
  refine WR_fp 44 rfl ((by simp)) ?_
  refine WR_yes rfl ?_
  refine WR_val rfl (rn_load rfl (Ld.rowA (k := 512) hr5 (by kernel_rfl) (by kernel_rfl) (by first | (simp; done) | (simp [bv_length, *]; done) | assumption))) ?_
  refine WR_yes rfl ?_
  refine WR_val rfl (rn_zeroed (bv Z) (by rw [hZbz]; kernel_rfl)) ?_
  refine WR_yes rfl ?_
  refine WR_val rfl (rn_neqA (n := 512) (by kernel_rfl) rfl rfl hzl hzl) ?_
  refine WR_val rfl (rn_pick_f rfl) ?_
  refine WR_val rfl (rn_move) ?_
  refine WR_fn 49 rfl ((by simp)) ?_
  refine WR_yes rfl ?_
  refine WR_val rfl (rn_move) ?_
  refine WR_yes rfl ?_
  refine WR_val rfl (rn_load rfl (Ld.rowA (k := 512) hr4 (by kernel_rfl) (by kernel_rfl) (by first | (simp; done) | (simp [bv_length, *]; done) | assumption))) ?_
  refine WR_yes rfl ?_
  refine WR_ent rfl (rn_call (by kernel_rfl) rfl) (hp3 g x q mc md cv2 _ w902 h) ?_
  rintro _ w52 ⟨rfl, ⟨cv3, h⟩, hb52⟩
  replace hLL := hLL.ll hb52 (by first | (intro b hb; exact hb) | (intro b hb; simp [hb]; done) | simp)
  replace hr26 := hr26.kpd hb52.kp (by first | (refine notLL ?_; left; omega) | (refine notLL ?_; right; simp; done) | (intro b o e; cases e; first | (refine notLL ?_; left; omega) | (refine notLL ?_; right; simp; done) | (refine notLL ?_; right; simp [*]; done)) | (intro b hb; refine notLL ?_; left; omega) | (intro b hb e; cases e; exact notLL (by right; simp [*]) hb))
  replace hr4 := hr4.kpd hb52.kp (by first | (refine notLL ?_; left; omega) | (refine notLL ?_; right; simp; done) | (intro b o e; cases e; first | (refine notLL ?_; left; omega) | (refine notLL ?_; right; simp; done) | (refine notLL ?_; right; simp [*]; done)) | (intro b hb; refine notLL ?_; left; omega) | (intro b hb e; cases e; exact notLL (by right; simp [*]) hb))
  replace hr5 := hr5.kpd hb52.kp (by first | (refine notLL ?_; left; omega) | (refine notLL ?_; right; simp; done) | (intro b o e; cases e; first | (refine notLL ?_; left; omega) | (refine notLL ?_; right; simp; done) | (refine notLL ?_; right; simp [*]; done)) | (intro b hb; refine notLL ?_; left; omega) | (intro b hb e; cases e; exact notLL (by right; simp [*]) hb))
  refine WR_yes rfl ?_
  refine WR_val rfl (rn_neq rfl rfl) ?_
  refine WR_val rfl (rn_pick_f rfl) ?_
  refine WR_val rfl (rn_move) ?_
  refine WR_fp 55 rfl ((by simp)) ?_
  refine WR_yes rfl ?_
  refine WR_val rfl (rn_move) ?_
  refine WR_yes rfl ?_
  refine WR_ent rfl (rn_call (by kernel_rfl) rfl) (hc4 g x q mc md cv3 _ w52 h) ?_
  rintro _ w57 ⟨rfl, ⟨cv4, h⟩, hb57⟩
  replace hLL := hLL.ll hb57 (by first | (intro b hb; exact hb) | (intro b hb; simp [hb]; done) | simp)
  replace hr26 := hr26.kpd hb57.kp (by first | (refine notLL ?_; left; omega) | (refine notLL ?_; right; simp; done) | (intro b o e; cases e; first | (refine notLL ?_; left; omega) | (refine notLL ?_; right; simp; done) | (refine notLL ?_; right; simp [*]; done)) | (intro b hb; refine notLL ?_; left; omega) | (intro b hb e; cases e; exact notLL (by right; simp [*]) hb))
  replace hr4 := hr4.kpd hb57.kp (by first | (refine notLL ?_; left; omega) | (refine notLL ?_; right; simp; done) | (intro b o e; cases e; first | (refine notLL ?_; left; omega) | (refine notLL ?_; right; simp; done) | (refine notLL ?_; right; simp [*]; done)) | (intro b hb; refine notLL ?_; left; omega) | (intro b hb e; cases e; exact notLL (by right; simp [*]) hb))
  replace hr5 := hr5.kpd hb57.kp (by first | (refine notLL ?_; left; omega) | (refine notLL ?_; right; simp; done) | (intro b o e; cases e; first | (refine notLL ?_; left; omega) | (refine notLL ?_; right; simp; done) | (refine notLL ?_; right; simp [*]; done)) | (intro b hb; refine notLL ?_; left; omega) | (intro b hb e; cases e; exact notLL (by right; simp [*]) hb))
  refine WR_yes rfl ?_
  refine WR_val rfl (rn_neq rfl rfl) ?_
  refine WR_val rfl (rn_pick_f rfl) ?_
  refine WR_nil ?_
  refine thenN ?_
  refine W_fp rfl ((by simp)) ?_
  refine W_skip ?_
  refine thenN ?_
  refine W_seq ?_
  refine W_region ?_
  refine WR_val rfl (rn_move) ?_
  refine WR_ent rfl (rn_call (by kernel_rfl) rfl) (hgetB g x q mc md cv4 _ w57 h) ?_
  rintro _ w62 ⟨rfl, ⟨cv5, h⟩, hb62⟩
  replace hLL := hLL.ll hb62 (by first | (intro b hb; exact hb) | (intro b hb; simp [hb]; done) | simp)
  replace hr26 := hr26.kpd hb62.kp (by first | (refine notLL ?_; left; omega) | (refine notLL ?_; right; simp; done) | (intro b o e; cases e; first | (refine notLL ?_; left; omega) | (refine notLL ?_; right; simp; done) | (refine notLL ?_; right; simp [*]; done)) | (intro b hb; refine notLL ?_; left; omega) | (intro b hb e; cases e; exact notLL (by right; simp [*]) hb))
  replace hr4 := hr4.kpd hb62.kp (by first | (refine notLL ?_; left; omega) | (refine notLL ?_; right; simp; done) | (intro b o e; cases e; first | (refine notLL ?_; left; omega) | (refine notLL ?_; right; simp; done) | (refine notLL ?_; right; simp [*]; done)) | (intro b hb; refine notLL ?_; left; omega) | (intro b hb e; cases e; exact notLL (by right; simp [*]) hb))
  replace hr5 := hr5.kpd hb62.kp (by first | (refine notLL ?_; left; omega) | (refine notLL ?_; right; simp; done) | (intro b o e; cases e; first | (refine notLL ?_; left; omega) | (refine notLL ?_; right; simp; done) | (refine notLL ?_; right; simp [*]; done)) | (intro b hb; refine notLL ?_; left; omega) | (intro b hb e; cases e; exact notLL (by right; simp [*]) hb))
  refine WR_val rfl (rn_move) ?_
  refine WR_val rfl (rn_extract rfl rfl) ?_
  refine WR_val rfl (rn_extract rfl rfl) ?_
  have hz7 := hLL.size
  refine WR_mk rfl (mk_alloc (List.replicate 512 (Value.int .u8 0)) (by kernel_rfl) (fun g7 w7 hg7 hr7 hb7 => ?_))
  have lt_g26_g7 : g26 < g7 := Nat.lt_of_lt_of_le hr26.lt hg7
  have lt_g4_g7 : g4 < g7 := Nat.lt_of_lt_of_le hr4.lt hg7
  have lt_g5_g7 : g5 < g7 := Nat.lt_of_lt_of_le hr5.lt hg7
  replace hLL := hLL.new hb7
  replace h := h.newc hb7 hg7 hr7.lt
  replace hr26 := hr26.new hb7
  replace hr4 := hr4.new hb7
  replace hr5 := hr5.new hb7
  refine WR_sk rfl (sk_storeA 512 (bv X) rfl rfl hr7 (by kernel_rfl) (by first | assumption | (simp; done) | (simp [bv_length, *]; done)) (by first | assumption | (simp; done) | (simp [bv_length, *]; done) | rfl) (by first | exact bv_one _ | assumption | (simp [Value.oneCell']; done)) (fun w903 hr7 ho903 => ?_))
  replace hLL := hLL.only ho903 (by first | omega | (right; exact ⟨by omega, by assumption⟩))
  replace h := h.only ho903 (by first | (right; simp; done) | (left; omega))
  replace hr26 := hr26.only ho903 (Nat.ne_of_lt lt_g26_g7)
  replace hr4 := hr4.only ho903 (Nat.ne_of_lt lt_g4_g7)
  replace hr5 := hr5.only ho903 (Nat.ne_of_lt lt_g5_g7)
  refine WR_val rfl (rn_assign) ?_
  refine WR_nil ?_
  refine thenN ?_
  refine W_seq ?_
  refine W_region ?_
  refine WR_val rfl (rn_move) ?_
  refine WR_val rfl (rn_eql rfl rfl) ?_
  refine WR_val rfl (rn_move) ?_
  refine WR_tp 67 rfl ((by simp)) ?_
  refine WR_yes rfl ?_
  refine WR_val rfl (rn_load rfl (Ld.rowA (k := 512) hr7 (by kernel_rfl) (by kernel_rfl) (by first | (simp; done) | (simp [bv_length, *]; done) | assumption))) ?_
  refine WR_yes rfl ?_
  refine WR_val rfl (rn_load rfl (Ld.rowA (k := 512) hr4 (by kernel_rfl) (by kernel_rfl) (by first | (simp; done) | (simp [bv_length, *]; done) | assumption))) ?_
  refine WR_yes rfl ?_
  refine WR_val rfl (rn_eqlA (n := 512) (by kernel_rfl) rfl rfl hXl hXl) ?_
  refine WR_val rfl (rn_pick_t rfl) ?_
  refine WR_val rfl (rn_move) ?_
  refine WR_tp 72 rfl ((by simp)) ?_
  refine WR_yes rfl ?_
  refine WR_val rfl (rn_move) ?_
  refine WR_yes rfl ?_
  refine WR_ent rfl (rn_call (by kernel_rfl) rfl) (hd6 g x q mc md cv5 _ w903 h) ?_
  rintro _ w74 ⟨⟨p7, c7, rfl, hsl7, hf7⟩, hb74⟩
  replace hLL := hLL.new hb74
  replace h := h.new hb74
  replace hr26 := hr26.new hb74
  replace hr4 := hr4.new hb74
  replace hr5 := hr5.new hb74
  replace hr7 := hr7.new hb74
  refine WR_yes rfl ?_
  refine WR_mk rfl (mk_one (e := 3) (.int .i64 1) ([.int .i64 1]) ([Value.int .i64 0]) 1 (by kernel_rfl) (by kernel_rfl) rfl rfl rfl ⟨by decide, by decide⟩ (fun g75 w75 hg75 hr75 hb75 => ?_))
  have lt_g26_g75 : g26 < g75 := Nat.lt_of_lt_of_le hr26.lt hg75
  have lt_g4_g75 : g4 < g75 := Nat.lt_of_lt_of_le hr4.lt hg75
  have lt_g5_g75 : g5 < g75 := Nat.lt_of_lt_of_le hr5.lt hg75
  have lt_g7_g75 : g7 < g75 := Nat.lt_of_lt_of_le hr7.lt hg75
  replace hLL := hLL.new hb75
  replace h := h.newc hb75 hg75 hr75.lt
  replace hr26 := hr26.new hb75
  replace hr4 := hr4.new hb75
  replace hr5 := hr5.new hb75
  replace hr7 := hr7.new hb75
  replace hsl7 := hsl7.new hb75
  refine WR_yes rfl ?_
  have hs75 := hr75.slA (m := 1) (sz := 1) rfl (by omega)
  have hsm := same06 [1] [1] p7 (some ⟨g75, 0, none⟩) c7 1 w75 hsl7 hs75
  refine WR_ent rfl (rn_call (by kernel_rfl) rfl) (hsm) ?_
  rintro _ w76 ⟨rfl, hb76⟩
  replace hLL := hLL.new hb76
  replace h := h.new hb76
  replace hr26 := hr26.new hb76
  replace hr4 := hr4.new hb76
  replace hr5 := hr5.new hb76
  replace hr7 := hr7.new hb76
  replace hsl7 := hsl7.new hb76
  replace hr75 := hr75.new hb76
  refine WR_val rfl (rn_pick_t rfl) ?_
  refine WR_val rfl (rn_move) ?_
  refine WR_tb 78 rfl ((by simp)) ?_
  refine WR_yes rfl ?_
  refine WR_val rfl (rn_move) ?_
  refine WR_yes rfl ?_
  refine WR_ent rfl (rn_call (by kernel_rfl) rfl) (hr6 g x q mc md cv5 _ w76 h) ?_
  rintro _ w80 ⟨rfl, hb80⟩
  replace hLL := hLL.new hb80
  replace h := h.new hb80
  replace hr26 := hr26.new hb80
  replace hr4 := hr4.new hb80
  replace hr5 := hr5.new hb80
  replace hr7 := hr7.new hb80
  replace hsl7 := hsl7.new hb80
  replace hr75 := hr75.new hb80
  refine WR_yes rfl ?_
  refine WR_val rfl (rn_eql rfl rfl) ?_
  refine WR_val rfl (rn_pick_t rfl) ?_
  refine WR_val rfl (rn_assign) ?_
  refine WR_nil ?_
  refine thenN ?_
  refine W_ret ?_
  refine ret_ret [_] ⟨rfl, trivial⟩ ?_
  exact ⟨rfl, hLL⟩
end Go.Proofs.YtielfpkjoidomaaGreat
namespace Go.Proofs.YtielfpkjoidomaaGreat
open Go Go.RowKit Coup
def zeroPl : List Value := [.pointer none, .pointer none, .int .i64 0, .int .i64 0, .map none, .map none, .slice none 0 0, .bool false]
def NilP (p : Value) (w : World) : Prop := p = .pointer none ∨ ∃ z, p = .pointer (some ⟨z, 0, none⟩) ∧ row w z [.pointer none, .pointer none, .int .i64 0, .int .i64 0, .map none, .map none, .slice none 0 0, .bool false] 54
theorem NilP.new {p : Value} {w w' : World} (h : NilP p w) (hb : Below w.heap.size w w') : NilP p w' := h.imp id fun ⟨z, e, hr⟩ => ⟨z, e, hr.new hb⟩
end Go.Proofs.YtielfpkjoidomaaGreat
namespace Go.Proofs.YtielfpkjoidomaaGreat
open Go Go.RowKit Coup
end Go.Proofs.YtielfpkjoidomaaGreat
