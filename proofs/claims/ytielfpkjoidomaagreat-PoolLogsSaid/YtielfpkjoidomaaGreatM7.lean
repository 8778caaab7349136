import Derived.Test.YtielfpkjoidomaaGreatM6
namespace Go.Proofs.YtielfpkjoidomaaGreat
open Go Go.RowKit Coup
theorem TH.ext' {X Y : TH} (h : X.Z = Y.Z) : X = Y := by
  cases X; cases Y; cases h; rfl
theorem AtZ.one {l : List TH} {lo : Nat} {L : List Nat} {w : World} (h : AtZ l lo L w) : Two (Parts l) None lo L w := by
  obtain ⟨⟨C, h1, h2⟩, h3, h4⟩ := h
  exact ⟨⟨C, [], h1, rfl, fun b hb => ⟨(h2 b hb).1, by simp, (h2 b hb).2⟩, fun b hb => nomatch hb⟩, h3, h4⟩
set_option maxHeartbeats 4000000 in
set_option maxRecDepth 20000 in
theorem poolLogsC (pages small great : Int) (p : Option Addr) (n cp : Nat) (R : List PStep) (w : World) (h : ElsAt (PsQ w) w 4 p n R) :
    Calls Tryz.prog 3 [.int .i64 pages, .int .i64 small, .int .i64 great, .slice p n cp].toArray w (Ret fun v w' => v = .bool true ∧ Below w.heap.size w w') := by
  have hLL := LoL.refl w.heap.size [] w
  have hml : maxLen = 9223372036854775807 := by decide
  have hfit := fits06 pages small w
  have hfit2 := fits06 pages great w
  have hne3 := rneed11 3 w
  have hfew := few06 p n cp 40 R w h (by omega)
  have hRl := h.1
  have hN0 : Two (Parts []) None w.heap.size [] w := ⟨⟨[], [], rfl, rfl, (fun b hb => nomatch hb), fun b hb => nomatch hb⟩, Nat.le_refl _, fun b hb => nomatch hb⟩
  refine Calls.to (R := fun v w' => v = .bool true ∧ LoL w.heap.size [] w w') ?_ (fun v w' hh => ⟨hh.1, belLL (Below.refl _ _) hh.2 (Nat.le_refl _)⟩)
  obtain ⟨N3, hN3⟩ : ∃ N3, needW 3 = N3 := ⟨_, rfl⟩
  rw [hN3] at hne3
  refine calls_W (fn := Tryz.f3) (rs := [.tmp 8]) (n := 217) Tryz.func3 rfl rfl Tryz.ntmps3 (by kernel_rfl) rfl ?_
  refine W_seq ?_
  refine W_region ?_
  refine WR_val rfl (rn_assign) ?_
  refine WR_nil ?_
  refine thenN ?_
  refine W_seq ?_
  refine W_seq ?_
  refine W_region ?_
  refine WR_val rfl (rn_move) ?_
  refine WR_val rfl (rn_move) ?_
  refine WR_ent rfl (rn_call (by kernel_rfl) rfl) (hfit) ?_
  rintro _ _ ⟨rfl, rfl⟩
  refine WR_val rfl (rn_not rfl) ?_
  refine WR_val rfl (rn_move) ?_
  refine WR_partnb 37 rfl (fun hA => ?_) (fun hA => ?_)
  ·
    refine WR_no rfl rfl ?_
    refine WR_no rfl rfl ?_
    refine WR_no rfl rfl ?_
    refine WR_no rfl rfl ?_
    refine WR_val rfl (rn_pick_t rfl) ?_
    refine WR_val rfl (rn_move) ?_
    refine WR_no rfl rfl ?_
    refine WR_no rfl rfl ?_
    refine WR_val rfl (rn_pick_t rfl) ?_
    refine WR_val rfl (rn_move) ?_
    refine WR_no rfl rfl ?_
    refine WR_no rfl rfl ?_
    refine WR_no rfl rfl ?_
    refine WR_val rfl (rn_pick_t rfl) ?_
    refine WR_val rfl (rn_move) ?_
    refine WR_no rfl rfl ?_
    refine WR_no rfl rfl ?_
    refine WR_no rfl rfl ?_
    refine WR_val rfl (rn_pick_t rfl) ?_
    refine WR_val rfl (rn_move) ?_
    refine WR_no rfl rfl ?_
    refine WR_no rfl rfl ?_
    refine WR_no rfl rfl ?_
    refine WR_val rfl (rn_pick_t rfl) ?_
    refine WR_nil ?_
    refine thenN ?_
    refine W_t rfl ?_
    refine W_seq ?_
    refine W_region ?_
    refine WR_ent rfl (rn_call (by kernel_rfl) rfl) (known06 w) ?_
    rintro _ w62 ⟨rfl, hb62⟩
    replace hLL := hLL.new hb62
    refine WR_val rfl (rn_assign) ?_
    refine WR_nil ?_
    refine thenN ?_
    refine W_ret ?_
    refine thenR ?_
    refine ret_ret [_] ⟨rfl, trivial⟩ ?_
    exact ⟨rfl, hLL⟩
  ·
    refine WR_yes rfl ?_
    refine WR_val rfl (rn_move) ?_
    refine WR_yes rfl ?_
    refine WR_val rfl (rn_move) ?_
    refine WR_yes rfl ?_
    refine WR_ent rfl (rn_call (by kernel_rfl) rfl) (hfit2) ?_
    rintro _ _ ⟨rfl, rfl⟩
    refine WR_yes rfl ?_
    refine WR_val rfl (rn_not rfl) ?_
    refine WR_val rfl (rn_pick_f rfl) ?_
    refine WR_val rfl (rn_move) ?_
    refine WR_partnb 43 rfl (fun hA2 => ?_) (fun hA2 => ?_)
    ·
      refine WR_no rfl rfl ?_
      refine WR_no rfl rfl ?_
      refine WR_val rfl (rn_pick_t rfl) ?_
      refine WR_val rfl (rn_move) ?_
      refine WR_no rfl rfl ?_
      refine WR_no rfl rfl ?_
      refine WR_no rfl rfl ?_
      refine WR_val rfl (rn_pick_t rfl) ?_
      refine WR_val rfl (rn_move) ?_
      refine WR_no rfl rfl ?_
      refine WR_no rfl rfl ?_
      refine WR_no rfl rfl ?_
      refine WR_val rfl (rn_pick_t rfl) ?_
      refine WR_val rfl (rn_move) ?_
      refine WR_no rfl rfl ?_
      refine WR_no rfl rfl ?_
      refine WR_no rfl rfl ?_
      refine WR_val rfl (rn_pick_t rfl) ?_
      refine WR_nil ?_
      refine thenN ?_
      refine W_t rfl ?_
      refine W_seq ?_
      refine W_region ?_
      refine WR_ent rfl (rn_call (by kernel_rfl) rfl) (known06 w) ?_
      rintro _ w62 ⟨rfl, hb62⟩
      replace hLL := hLL.new hb62
      refine WR_val rfl (rn_assign) ?_
      refine WR_nil ?_
      refine thenN ?_
      refine W_ret ?_
      refine thenR ?_
      refine ret_ret [_] ⟨rfl, trivial⟩ ?_
      exact ⟨rfl, hLL⟩
    ·
      refine WR_yes rfl ?_
      refine WR_val rfl (rn_move) ?_
      refine WR_yes rfl ?_
      refine WR_val rfl (rn_gtr rfl rfl) ?_
      refine WR_val rfl (rn_pick_f rfl) ?_
      refine WR_val rfl (rn_move) ?_
      refine WR_part 47 rfl (fun h20 => ?_) (fun h20 => ?_)
      ·
        refine WR_no rfl rfl ?_
        refine WR_no rfl rfl ?_
        refine WR_no rfl rfl ?_
        refine WR_val rfl (rn_pick_t rfl) ?_
        refine WR_val rfl (rn_move) ?_
        refine WR_no rfl rfl ?_
        refine WR_no rfl rfl ?_
        refine WR_no rfl rfl ?_
        refine WR_val rfl (rn_pick_t rfl) ?_
        refine WR_val rfl (rn_move) ?_
        refine WR_no rfl rfl ?_
        refine WR_no rfl rfl ?_
        refine WR_no rfl rfl ?_
        refine WR_val rfl (rn_pick_t rfl) ?_
        refine WR_nil ?_
        refine thenN ?_
        refine W_t rfl ?_
        refine W_seq ?_
        refine W_region ?_
        refine WR_ent rfl (rn_call (by kernel_rfl) rfl) (known06 w) ?_
        rintro _ w62 ⟨rfl, hb62⟩
        replace hLL := hLL.new hb62
        refine WR_val rfl (rn_assign) ?_
        refine WR_nil ?_
        refine thenN ?_
        refine W_ret ?_
        refine thenR ?_
        refine ret_ret [_] ⟨rfl, trivial⟩ ?_
        exact ⟨rfl, hLL⟩
      ·
        refine WR_yes rfl ?_
        refine WR_val rfl (rn_move) ?_
        refine WR_yes rfl ?_
        refine WR_ent rfl (rn_call (by kernel_rfl) rfl) (hne3) ?_
        rintro _ _ ⟨rfl, rfl⟩
        refine WR_yes rfl ?_
        refine WR_val rfl (rn_lss rfl rfl) ?_
        refine WR_val rfl (rn_pick_f rfl) ?_
        refine WR_val rfl (rn_move) ?_
        refine WR_part 52 rfl (fun h1 => ?_) (fun h1 => ?_)
        ·
          refine WR_no rfl rfl ?_
          refine WR_no rfl rfl ?_
          refine WR_no rfl rfl ?_
          refine WR_val rfl (rn_pick_t rfl) ?_
          refine WR_val rfl (rn_move) ?_
          refine WR_no rfl rfl ?_
          refine WR_no rfl rfl ?_
          refine WR_no rfl rfl ?_
          refine WR_val rfl (rn_pick_t rfl) ?_
          refine WR_nil ?_
          refine thenN ?_
          refine W_t rfl ?_
          refine W_seq ?_
          refine W_region ?_
          refine WR_ent rfl (rn_call (by kernel_rfl) rfl) (known06 w) ?_
          rintro _ w62 ⟨rfl, hb62⟩
          replace hLL := hLL.new hb62
          refine WR_val rfl (rn_assign) ?_
          refine WR_nil ?_
          refine thenN ?_
          refine W_ret ?_
          refine thenR ?_
          refine ret_ret [_] ⟨rfl, trivial⟩ ?_
          exact ⟨rfl, hLL⟩
        ·
          refine WR_yes rfl ?_
          refine WR_val rfl (rn_move) ?_
          refine WR_yes rfl ?_
          refine WR_ent rfl (rn_call (by kernel_rfl) rfl) (hne3) ?_
          rintro _ _ ⟨rfl, rfl⟩
          refine WR_yes rfl ?_
          refine WR_val rfl (rn_lss rfl rfl) ?_
          refine WR_val rfl (rn_pick_f rfl) ?_
          refine WR_val rfl (rn_move) ?_
          refine WR_part 57 rfl (fun h2 => ?_) (fun h2 => ?_)
          ·
            refine WR_no rfl rfl ?_
            refine WR_no rfl rfl ?_
            refine WR_no rfl rfl ?_
            refine WR_val rfl (rn_pick_t rfl) ?_
            refine WR_nil ?_
            refine thenN ?_
            refine W_t rfl ?_
            refine W_seq ?_
            refine W_region ?_
            refine WR_ent rfl (rn_call (by kernel_rfl) rfl) (known06 w) ?_
            rintro _ w62 ⟨rfl, hb62⟩
            replace hLL := hLL.new hb62
            refine WR_val rfl (rn_assign) ?_
            refine WR_nil ?_
            refine thenN ?_
            refine W_ret ?_
            refine thenR ?_
            refine ret_ret [_] ⟨rfl, trivial⟩ ?_
            exact ⟨rfl, hLL⟩
          ·
            refine WR_yes rfl ?_
            refine WR_val rfl (rn_move) ?_
            refine WR_yes rfl ?_
            refine WR_ent rfl (rn_call (by kernel_rfl) rfl) (hfew) ?_
            rintro _ _ ⟨B, rfl, hBf, rfl⟩
            refine WR_yes rfl ?_
            refine WR_val rfl (rn_not rfl) ?_
            refine WR_val rfl (rn_pick_f rfl) ?_
            refine WR_nil ?_
            refine thenN ?_
            refine W_ifnb rfl (fun hF => ?_) (fun hF => ?_)
            ·
              refine W_seq ?_
              refine W_region ?_
              refine WR_ent rfl (rn_call (by kernel_rfl) rfl) (known06 w) ?_
              rintro _ w62 ⟨rfl, hb62⟩
              replace hLL := hLL.new hb62
              refine WR_val rfl (rn_assign) ?_
              refine WR_nil ?_
              refine thenN ?_
              refine W_ret ?_
              refine thenR ?_
              refine ret_ret [_] ⟨rfl, trivial⟩ ?_
              exact ⟨rfl, hLL⟩
            ·
              have hB1 : (4 ≤ pages ∧ pages ≤ 80) ∧ 4 ≤ small ∧ small ≤ 400 := by simpa using hA
              have hB2 : (4 ≤ pages ∧ pages ≤ 80) ∧ 4 ≤ great ∧ great ≤ 400 := by simpa using hA2
              have hF2 : fewP R 40 := hBf (by simpa using hF)
              have hob : ∃ P0 S0 T0 : Nat, pages = P0 ∧ small = S0 ∧ great = T0 := ⟨pages.toNat, small.toNat, great.toNat, by omega, by omega, by omega⟩
              obtain ⟨P0, S0, T0, e1, e2, e3⟩ := hob
              subst e1 e2 e3
              have hn1 : needW 3 ≤ (S0 : Int) := by rw [hN3]; omega
              have hn2 : needW 3 ≤ (T0 : Int) := by rw [hN3]; omega
              have hbg := begunC hN0 P0 S0 4 (by omega) (by omega) (by omega) (by omega) (by omega) (by omega)
              have hbg2 := fun g q w' (h' : AtZ [dzT g (frP P0 S0 4).D, prT g q (frP P0 S0 4)] w.heap.size [] w') => begunC h'.one P0 T0 4 (by omega) (by omega) (by omega) (by omega) (by omega) (by omega)
              have hi1 : PlI (frP P0 S0 4) (fun _ => zeroP) 2 := frP_inv (by omega) (by omega) (by omega) (by omega) (by omega) (by omega)
              have hi2 : PlI (frP P0 T0 4) (fun _ => zeroP) 2 := frP_inv (by omega) (by omega) (by omega) (by omega) (by omega) (by omega)
              have hl1 : DkOk (frP P0 S0 4).D → PlL (frP P0 S0 4) [] := fun hd => frP_log (by omega) (by omega) (by omega) hd
              have hl2 : DkOk (frP P0 T0 4).D → PlL (frP P0 T0 4) [] := fun hd => frP_log (by omega) (by omega) (by omega) hd
              have hm1 : (frP P0 S0 4).n = P0 := (frP_all 4 (by omega) (by omega) (by omega)).2.2.1
              have hm2 : (frP P0 T0 4).n = P0 := (frP_all 4 (by omega) (by omega) (by omega)).2.2.1
              have hc0 : (frP P0 T0 4).ch = (frP P0 S0 4).ch := rfl
              have hr0 : (recP (frP P0 S0 4)).length ≤ 2 := by
                have e : ∀ m a, prsP noP a m = [] := fun m => by
                  induction m with
                  | zero => intro a; rfl
                  | succ m ih => intro a; rw [prsP]; exact ih (a + 1)
                have e2 : recP (frP P0 S0 4) = [] := by
                  unfold recP
                  show (prsP noP 0 _).map _ = []
                  rw [e]; rfl
                rw [e2]; exact Nat.zero_le _
              have hg1 : (frP P0 S0 4).G.size = S0 := rfl
              have hg2z : (frP P0 T0 4).G.size = T0 := rfl
              have hn40 := hF2.1
              generalize frP P0 S0 4 = K1 at *
              generalize frP P0 T0 4 = K2 at *
              refine W_skip ?_
              refine thenN ?_
              refine W_seq ?_
              refine W_region ?_
              refine WR_val rfl (rn_move) ?_
              refine WR_val rfl (rn_move) ?_
              refine WR_ent rfl (rn_call (by kernel_rfl) rfl) (hbg) ?_
              rintro _ w66 ⟨⟨g, x, q, mc, md, cv, rfl, hP⟩, hb66⟩
              have hT := pr_close hP
              have hdk1 := (tOk hP.lg.fst).1
              clear hP
              replace hLL := hLL.ll hb66 (by first | (intro b hb; exact hb) | (intro b hb; simp [hb]; done) | simp)
              refine WR_val rfl (rn_move) ?_
              refine WR_val rfl (rn_extract rfl rfl) ?_
              refine WR_val rfl (rn_extract rfl rfl) ?_
              refine WR_val rfl (rn_extract rfl rfl) ?_
              refine WR_val rfl (rn_assign) ?_
              refine WR_val rfl (rn_assign) ?_
              refine WR_val rfl (rn_assign) ?_
              refine WR_nil ?_
              refine thenN ?_
              refine W_seq ?_
              refine W_region ?_
              refine WR_val rfl (rn_move) ?_
              refine WR_val rfl (rn_move) ?_
              refine WR_ent rfl (rn_call (by kernel_rfl) rfl) (hbg2 g q w66 hT) ?_
              rintro _ w73 ⟨⟨g2, x2, q2, mc2, md2, cv2, rfl, hP⟩, hb73⟩
              have hT := (pr_close hP).perm rot2
              have hdk2 := (tOk hP.lg.fst).1
              clear hP
              replace hLL := hLL.ll hb73 (by first | (intro b hb; exact hb) | (intro b hb; simp [hb]; done) | simp)
              refine WR_val rfl (rn_move) ?_
              refine WR_val rfl (rn_extract rfl rfl) ?_
              refine WR_val rfl (rn_extract rfl rfl) ?_
              refine WR_val rfl (rn_extract rfl rfl) ?_
              refine WR_val rfl (rn_assign) ?_
              refine WR_val rfl (rn_assign) ?_
              refine WR_val rfl (rn_assign) ?_
              refine WR_nil ?_
              refine thenN ?_
              refine W_seq ?_
              refine W_seq ?_
              refine W_region ?_
              refine WR_val rfl (rn_move) ?_
              refine WR_val rfl (rn_not rfl) ?_
              refine WR_val rfl (rn_move) ?_
              refine WR_fnb 79 rfl (rfl) ?_
              refine WR_yes rfl ?_
              refine WR_val rfl (rn_move) ?_
              refine WR_yes rfl ?_
              refine WR_val rfl (rn_not rfl) ?_
              refine WR_val rfl (rn_pick_f rfl) ?_
              refine WR_nil ?_
              refine thenN ?_
              refine W_fnb rfl (rfl) ?_
              refine W_skip ?_
              refine thenN ?_
              refine W_seq ?_
              refine W_seq ?_
              refine W_region ?_
              refine WR_val rfl (rn_assign) ?_
              refine WR_nil ?_
              refine thenN ?_
              refine W_block ?_
              have hL0 : LI K1 K2 (fun _ => zeroP) 2 P0 S0 T0 := ⟨hi1, hi2, ⟨[], hl1 hdk1⟩, ⟨[], hl2 hdk2⟩, hc0, hm1, hm2, hg1, hg2z⟩
              refine W_loop (α := Nat × (Pl × Pl) × (Nat → Pg)) (0, (K1, K2), fun _ => zeroP) (fun a => [(15, .int .i64 (a.1 : Nat)), (3, .slice p n cp), (10, .pointer (some ⟨q, 0, none⟩)), (13, .pointer (some ⟨q2, 0, none⟩)), (9, .pointer (some ⟨g, 0, none⟩)), (12, .pointer (some ⟨g2, 0, none⟩)), (0, .int .i64 (P0 : Int)), (1, .int .i64 (S0 : Int)), (2, .int .i64 (T0 : Int))])
                (fun a w' => a.1 ≤ n ∧ LI a.2.1.1 a.2.1.2 a.2.2 (2 + 2 * a.1) P0 S0 T0 ∧ (recP a.2.1.1).length ≤ 2 ∧ AtZ [dzT g a.2.1.1.D, prT g q a.2.1.1, dzT g2 a.2.1.2.D, prT g2 q2 a.2.1.2] w.heap.size [] w' ∧ LoL w.heap.size [] w w') (fun a => n - a.1)
                ⟨rfl, rfl, rfl, rfl, rfl, rfl, rfl, rfl, rfl, rfl⟩ ⟨Nat.zero_le _, hL0, hr0, hT, hLL⟩ ?_
              clear hT hLL hL0 hi1 hi2 hl1 hl2 hm1 hm2 hc0 hr0 hg1 hg2z hdk1 hdk2 hbg hbg2 hfit hfit2 hne3 hfew hN0 hA hA2 hF
              rintro ⟨i, ⟨P, Q⟩, V⟩ f wr ⟨hi, hL, hr2, hT, hLL⟩
              dsimp only at hi hL hr2 hT hLL
              refine W_seq ?_
              refine W_seq ?_
              refine W_region ?_
              refine WR_val rfl (rn_move) ?_
              refine WR_val rfl (rn_move) ?_
              refine WR_val rfl (rn_lenSl (e := 33) (sz := 4) (by kernel_rfl) rfl rfl) ?_
              refine WR_val rfl (rn_lss rfl rfl) ?_
              refine WR_nil ?_
              refine thenN ?_
              refine W_ifp rfl (fun hlt => ?_) (fun hlt => ?_)
              ·
                refine W_skip ?_
                refine thenN ?_
                refine W_seq ?_
                refine W_block ?_
                refine W_seq ?_
                have hobx := h.get (i := i) (by omega)
                obtain ⟨a, hx⟩ := hobx
                have hobg := h.some (by omega)
                obtain ⟨gp, op, hgp, hgpl⟩ := hobg
                subst hgp
                have hle := h.ldB (P := Tryz.prog) (t := 33) (by kernel_rfl) (by kernel_rfl) hx
                obtain ⟨cs, hcs, hcl, hce⟩ := hle
                obtain ⟨qa, ca, hcs, hbs, wk, wn, wm⟩ := hcs
                subst hcs
                have hXl : (pageB a.b).length = 512 := pageB_len _
                have hBel := belLL (Below.refl _ _) hLL (Nat.le_refl _)
                have hzs := hLL.size
                refine W_region ?_
                refine WR_val rfl (rn_move) ?_
                refine WR_val rfl (rn_move) ?_
                refine WR_val rfl (rn_indexSl (e := 33) (sz := 4) (by kernel_rfl) rfl rfl (i) (by omega) (by omega)) ?_
                have hld := (hce wr hBel).1
                refine WR_val rfl (rn_load rfl (hld)) ?_
                refine WR_mk rfl (mk_alloc ([Value.int .i64 0, Value.int .i64 0, Value.int .i64 0, Value.slice none 0 0]) (by kernel_rfl) (fun g16 w16 hg16 hr16 hb16 => ?_))
                replace hLL := hLL.new hb16
                replace hT := hT.newc hb16 hg16 hr16.lt
                refine WR_sk rfl (sk_storeA 4 ([.int .i64 a.kind, .int .i64 a.n, .int .i64 a.many, .slice qa a.b.length ca]) rfl rfl hr16 (by kernel_rfl) (by first | assumption | (simp; done) | (simp [bv_length, *]; done)) (by first | assumption | (simp; done) | (simp [bv_length, *]; done) | rfl) (by first | exact bv_one _ | assumption | (simp [Value.oneCell']; done)) (fun w901 hr16 ho901 => ?_))
                replace hLL := hLL.only ho901 (by first | omega | (right; exact ⟨by omega, by assumption⟩))
                replace hT := hT.only ho901 (by first | (right; simp; done) | (left; omega))
                refine WR_nil ?_
                refine thenN ?_
                refine W_cut (fun a' : Pl × Pl => [(15, .int .i64 (i : Nat)), (16, .pointer (some ⟨g16, 0, none⟩)), (3, .slice (some ⟨gp, op, none⟩) n cp), (10, .pointer (some ⟨q, 0, none⟩)), (13, .pointer (some ⟨q2, 0, none⟩)), (9, .pointer (some ⟨g, 0, none⟩)), (12, .pointer (some ⟨g2, 0, none⟩)), (0, .int .i64 (P0 : Int)), (1, .int .i64 (S0 : Int)), (2, .int .i64 (T0 : Int))]) (fun a' w' => LI a'.1 a'.2 V (2 + 2 * i) P0 S0 T0 ∧ (recP a'.1).length ≤ 3 ∧ AtZ [dzT g a'.1.D, prT g q a'.1, dzT g2 a'.2.D, prT g2 q2 a'.2] w.heap.size [g16] w' ∧ row w' g16 [.int .i64 a.kind, .int .i64 a.n, .int .i64 a.many, .slice qa a.b.length ca] 33 ∧ LoL w.heap.size [] w w') ?_ ?_
                ·
                  refine W_seq ?_
                  refine W_region ?_
                  refine WR_val rfl (rn_fieldAddr (off := 0) (by kernel_rfl) rfl) ?_
                  refine WR_val rfl (rn_load rfl (Ld.row1 hr16 (by kernel_rfl) rfl)) ?_
                  refine WR_nil ?_
                  refine thenN ?_
                  refine W_block ?_
                  refine W_seq ?_
                  refine W_region ?_
                  refine WR_val rfl (rn_eql rfl rfl) ?_
                  refine WR_val rfl (rn_assign) ?_
                  refine WR_nil ?_
                  refine thenN ?_
                  refine W_ifp rfl (fun k2 => ?_) (fun k2 => ?_)
                  ·
                    refine W_seq ?_
                    refine W_drawL (w.heap.size) ([g16]) (by kernel_rfl) ?_
                    intro w902 hb902 hn902 hS902
                    replace hLL := hLL.new hb902
                    replace hT := hT.new hb902
                    replace hr16 := hr16.new hb902
                    have hLL_d902 := hLL
                    have hT_d902 := hT
                    have hr16_d902 := hr16
                    refine WA_take 0 (by kernel_rfl) rfl (fun _ _ => rn_move) ?_
                    refine WA_take 1 (by kernel_rfl) rfl (fun _ _ => rn_fieldAddr (off := 1) (by kernel_rfl) rfl) ?_
                    refine WA_take 2 (by kernel_rfl) rfl (fun w' hS' => rn_load rfl (Ld.row1 (hr16_d902.kpd hS' (by first | (simp; done) | (simp; omega) | (simp [*]; done) | exact notLL (Or.inl (by omega)) | exact notLL (Or.inr (by simp)) | exact fun g hm => Nat.le_trans (by omega) (inLL hm).1 | (intro b o e; cases e; exact notLL (Or.inl (by omega))) | (intro b hm; have := (hu.lt b (Option.mem_toList.1 hm)).1; omega) | (intro b o e; cases e; intro hm; have := (hu.lt _ (Option.mem_toList.1 hm)).1; omega))) (by kernel_rfl) rfl)) ?_
                    refine WA_take 3 (by kernel_rfl) rfl (fun _ _ => rn_fieldAddr (off := 3) (by kernel_rfl) rfl) ?_
                    refine WA_take 4 (by kernel_rfl) rfl (fun w' hS' => rn_load rfl (Ld.row1 (hr16_d902.kpd hS' (by first | (simp; done) | (simp; omega) | (simp [*]; done) | exact notLL (Or.inl (by omega)) | exact notLL (Or.inr (by simp)) | exact fun g hm => Nat.le_trans (by omega) (inLL hm).1 | (intro b o e; cases e; exact notLL (Or.inl (by omega))) | (intro b hm; have := (hu.lt b (Option.mem_toList.1 hm)).1; omega) | (intro b o e; cases e; intro hm; have := (hu.lt _ (Option.mem_toList.1 hm)).1; omega))) (by kernel_rfl) rfl)) ?_
                    refine WA_take 7 (by kernel_rfl) rfl (fun _ _ => rn_move) ?_
                    refine WA_take 8 (by kernel_rfl) rfl (fun _ _ => rn_fieldAddr (off := 1) (by kernel_rfl) rfl) ?_
                    refine WA_take 9 (by kernel_rfl) rfl (fun w' hS' => rn_load rfl (Ld.row1 (hr16_d902.kpd hS' (by first | (simp; done) | (simp; omega) | (simp [*]; done) | exact notLL (Or.inl (by omega)) | exact notLL (Or.inr (by simp)) | exact fun g hm => Nat.le_trans (by omega) (inLL hm).1 | (intro b o e; cases e; exact notLL (Or.inl (by omega))) | (intro b hm; have := (hu.lt b (Option.mem_toList.1 hm)).1; omega) | (intro b o e; cases e; intro hm; have := (hu.lt _ (Option.mem_toList.1 hm)).1; omega))) (by kernel_rfl) rfl)) ?_
                    refine WA_take 10 (by kernel_rfl) rfl (fun _ _ => rn_fieldAddr (off := 3) (by kernel_rfl) rfl) ?_
                    refine WA_take 11 (by kernel_rfl) rfl (fun w' hS' => rn_load rfl (Ld.row1 (hr16_d902.kpd hS' (by first | (simp; done) | (simp; omega) | (simp [*]; done) | exact notLL (Or.inl (by omega)) | exact notLL (Or.inr (by simp)) | exact fun g hm => Nat.le_trans (by omega) (inLL hm).1 | (intro b o e; cases e; exact notLL (Or.inl (by omega))) | (intro b hm; have := (hu.lt b (Option.mem_toList.1 hm)).1; omega) | (intro b o e; cases e; intro hm; have := (hu.lt _ (Option.mem_toList.1 hm)).1; omega))) (by kernel_rfl) rfl)) ?_
                    refine WA_one 5 (by kernel_rfl) ?_
                    have hb1 := sl_lo hbs (by omega) hLL
                    refine WO_ent rfl rfl (rn_call (by kernel_rfl) rfl) (page06 a.b qa a.b.length ca w902 hb1) ?_
                    rintro _ w102 ⟨rfl, hb102⟩
                    have hS903 := hS902.add0 hb102
                    refine ⟨hS903, ?_⟩
                    replace hLL := hLL.new hb102
                    replace hT := hT.new hb102
                    replace hr16 := hr16.new hb102
                    refine WA_one 6 (by kernel_rfl) ?_
                    refine WO_ent rfl rfl (rn_call (by kernel_rfl) rfl) (aPut hT hL.p a.n hXl) ?_
                    rintro _ w103 ⟨rfl, hT, hb103⟩
                    have hS904 := hS903.addLL hn902 hb103
                    refine ⟨hS904, ?_⟩
                    replace hLL := hLL.ll hb103 (by first | (intro b hb; exact hb) | (intro b hb; simp [hb]; done) | simp)
                    replace hr16 := hr16.kpd hb103.kp (by first | (refine notLL ?_; left; omega) | (refine notLL ?_; right; simp; done) | (intro b o e; cases e; first | (refine notLL ?_; left; omega) | (refine notLL ?_; right; simp; done) | (refine notLL ?_; right; simp [*]; done)) | (intro b hb; refine notLL ?_; left; omega) | (intro b hb e; cases e; exact notLL (by right; simp [*]) hb))
                    refine WA_one 12 (by kernel_rfl) ?_
                    have hb2 := sl_lo hbs (by omega) hLL
                    refine WO_ent rfl rfl (rn_call (by kernel_rfl) rfl) (page06 a.b qa a.b.length ca w103 hb2) ?_
                    rintro _ w109 ⟨rfl, hb109⟩
                    have hS905 := hS904.add0 hb109
                    refine ⟨hS905, ?_⟩
                    replace hLL := hLL.new hb109
                    replace hT := hT.new hb109
                    replace hr16 := hr16.new hb109
                    refine WA_one 13 (by kernel_rfl) ?_
                    have hsp := bPut hT hL.q a.n hXl
                    rw [hL.rd a.n] at hsp
                    refine WO_ent rfl rfl (rn_call (by kernel_rfl) rfl) (hsp) ?_
                    rintro _ w110 ⟨rfl, hT, hb110⟩
                    have hS906 := hS905.addLL hn902 hb110
                    refine ⟨hS906, ?_⟩
                    replace hLL := hLL.ll hb110 (by first | (intro b hb; exact hb) | (intro b hb; simp [hb]; done) | simp)
                    replace hr16 := hr16.kpd hb110.kp (by first | (refine notLL ?_; left; omega) | (refine notLL ?_; right; simp; done) | (intro b o e; cases e; first | (refine notLL ?_; left; omega) | (refine notLL ?_; right; simp; done) | (refine notLL ?_; right; simp [*]; done)) | (intro b hb; refine notLL ?_; left; omega) | (intro b hb e; cases e; exact notLL (by right; simp [*]) hb))
                    refine WA_take 14 (by kernel_rfl) rfl (fun _ _ => rn_neq rfl rfl) ?_
                    refine WA_done (by kernel_rfl) ?_
                    refine thenN ?_
                    refine W_fp rfl ((by simp)) ?_
                    refine W_skip ?_
                    refine blockN ?_
                    have hpr := pP_rec (P := P) a.n (pageB a.b)
                    refine loopN ⟨(pP P a.n (pageB a.b), pP Q a.n (pageB a.b)), ⟨rfl, rfl, rfl, rfl, rfl, rfl, rfl, rfl, rfl, rfl, rfl⟩, hL.put _ hXl, by dsimp only; omega, hT, hr16, hLL⟩
                  ·
                    refine W_seq ?_
                    refine W_region ?_
                    refine WR_val rfl (rn_eql rfl rfl) ?_
                    refine WR_val rfl (rn_assign) ?_
                    refine WR_nil ?_
                    refine thenN ?_
                    refine W_ifp rfl (fun k4 => ?_) (fun k4 => ?_)
                    ·
                      refine W_seq ?_
                      refine W_region ?_
                      refine WR_val rfl (rn_move) ?_
                      refine WR_ent rfl (rn_call (by kernel_rfl) rfl) (aAbort hT hL.p) ?_
                      rintro _ w115 ⟨rfl, hT, hb115⟩
                      replace hLL := hLL.ll hb115 (by first | (intro b hb; exact hb) | (intro b hb; simp [hb]; done) | simp)
                      replace hr16 := hr16.kpd hb115.kp (by first | (refine notLL ?_; left; omega) | (refine notLL ?_; right; simp; done) | (intro b o e; cases e; first | (refine notLL ?_; left; omega) | (refine notLL ?_; right; simp; done) | (refine notLL ?_; right; simp [*]; done)) | (intro b hb; refine notLL ?_; left; omega) | (intro b hb e; cases e; exact notLL (by right; simp [*]) hb))
                      refine WR_nil ?_
                      refine thenN ?_
                      refine W_region ?_
                      refine WR_val rfl (rn_move) ?_
                      refine WR_ent rfl (rn_call (by kernel_rfl) rfl) (bAbort hT hL.q) ?_
                      rintro _ w117 ⟨rfl, hT, hb117⟩
                      replace hLL := hLL.ll hb117 (by first | (intro b hb; exact hb) | (intro b hb; simp [hb]; done) | simp)
                      replace hr16 := hr16.kpd hb117.kp (by first | (refine notLL ?_; left; omega) | (refine notLL ?_; right; simp; done) | (intro b o e; cases e; first | (refine notLL ?_; left; omega) | (refine notLL ?_; right; simp; done) | (refine notLL ?_; right; simp [*]; done)) | (intro b hb; refine notLL ?_; left; omega) | (intro b hb e; cases e; exact notLL (by right; simp [*]) hb))
                      refine WR_nil ?_
                      refine blockN ?_
                      refine loopN ⟨({ P with ch := noP }, { Q with ch := noP }), ⟨rfl, rfl, rfl, rfl, rfl, rfl, rfl, rfl, rfl, rfl, rfl⟩, hL.abort, ?_, hT, hr16, hLL⟩
                      have e : ∀ m a, prsP noP a m = [] := fun m => by
                        induction m with
                        | zero => intro a; rfl
                        | succ m ih => intro a; rw [prsP]; exact ih (a + 1)
                      show ((prsP noP 0 _).map _).length ≤ 3
                      rw [e]; exact Nat.zero_le _
                    ·
                      refine W_skip ?_
                      refine blockN ?_
                      refine loopN ⟨(P, Q), ⟨rfl, rfl, rfl, rfl, rfl, rfl, rfl, rfl, rfl, rfl, rfl⟩, hL, by dsimp only; omega, hT, hr16, hLL⟩
                ·
                  clear hT hLL hr16 hL hr2
                  rintro ⟨P1, Q1⟩ f2 w2 ⟨hL, hr3, hT, hr16, hLL⟩
                  dsimp only at hL hr3 hT hr16 hLL
                  have hkl : (keysP P1.ch P1.n).length ≤ 3 := by rw [← rec_len]; exact hr3
                  refine W_seq ?_
                  refine W_region ?_
                  refine WR_val rfl (rn_fieldAddr (off := 0) (by kernel_rfl) rfl) ?_
                  refine WR_val rfl (rn_load rfl (Ld.row1 hr16 (by kernel_rfl) rfl)) ?_
                  refine WR_val rfl (rn_eql rfl rfl) ?_
                  refine WR_val rfl (rn_move) ?_
                  refine WR_part 121 rfl (fun k3 => ?_) (fun k3 => ?_)
                  ·
                    refine WR_no rfl rfl ?_
                    refine WR_no rfl rfl ?_
                    refine WR_no rfl rfl ?_
                    refine WR_no rfl rfl ?_
                    refine WR_val rfl (rn_pick_t rfl) ?_
                    refine WR_nil ?_
                    refine thenN ?_
                    refine W_t rfl ?_
                    refine W_seq ?_
                    refine W_region ?_
                    refine WR_val rfl (rn_move) ?_
                    have hcm := hL.commit (by omega) (by omega) (by omega) hn1 hn2
                    have hac := aCommit hT hL.p
                    rw [hcm.1] at hac
                    refine WR_ent rfl (rn_call (by kernel_rfl) rfl) (hac) ?_
                    rintro _ w128 ⟨rfl, hT, hb128⟩
                    replace hLL := hLL.ll hb128 (by first | (intro b hb; exact hb) | (intro b hb; simp [hb]; done) | simp)
                    replace hr16 := hr16.kpd hb128.kp (by first | (refine notLL ?_; left; omega) | (refine notLL ?_; right; simp; done) | (intro b o e; cases e; first | (refine notLL ?_; left; omega) | (refine notLL ?_; right; simp; done) | (refine notLL ?_; right; simp [*]; done)) | (intro b hb; refine notLL ?_; left; omega) | (intro b hb e; cases e; exact notLL (by right; simp [*]) hb))
                    refine WR_val rfl (rn_neq rfl rfl) ?_
                    refine WR_val rfl (rn_move) ?_
                    refine WR_fp 130 rfl ((by simp)) ?_
                    refine WR_yes rfl ?_
                    refine WR_val rfl (rn_move) ?_
                    refine WR_yes rfl ?_
                    have hbc := bCommit hT hL.q
                    rw [hcm.2.1] at hbc
                    refine WR_ent rfl (rn_call (by kernel_rfl) rfl) (hbc) ?_
                    rintro _ w132 ⟨rfl, hT, hb132⟩
                    replace hLL := hLL.ll hb132 (by first | (intro b hb; exact hb) | (intro b hb; simp [hb]; done) | simp)
                    replace hr16 := hr16.kpd hb132.kp (by first | (refine notLL ?_; left; omega) | (refine notLL ?_; right; simp; done) | (intro b o e; cases e; first | (refine notLL ?_; left; omega) | (refine notLL ?_; right; simp; done) | (refine notLL ?_; right; simp [*]; done)) | (intro b hb; refine notLL ?_; left; omega) | (intro b hb e; cases e; exact notLL (by right; simp [*]) hb))
                    refine WR_yes rfl ?_
                    refine WR_val rfl (rn_neq rfl rfl) ?_
                    refine WR_val rfl (rn_pick_f rfl) ?_
                    refine WR_nil ?_
                    refine thenN ?_
                    refine W_fp rfl ((by simp)) ?_
                    refine W_skip ?_
                    refine blockN ?_
                    refine thenN ?_
                    refine W_region ?_
                    refine WR_val rfl (rn_move) ?_
                    refine WR_val rfl (rn_add rfl rfl (Coup.w64 (by omega))) ?_
                    refine WR_val rfl (rn_assign) ?_
                    refine WR_nil ?_
                    refine loopN ⟨(i + 1, ((commitP P1).2, (commitP Q1).2), viewC P1 V), by omega, ⟨by go_num, rfl, rfl, rfl, rfl, rfl, rfl, rfl, rfl, rfl⟩, by omega, hcm.2.2.1.up (by omega), by dsimp only; rw [hcm.2.2.2]; exact Nat.zero_le _, hT.weak (fun b hb => nomatch hb), hLL⟩
                  ·
                    refine WR_yes rfl ?_
                    refine WR_val rfl (rn_move) ?_
                    refine WR_yes rfl ?_
                    refine WR_ent rfl (rn_call (by kernel_rfl) rfl) (aChanged hT) ?_
                    rintro _ w123 ⟨⟨p1, c1, rfl, _, _⟩, hb123⟩
                    replace hLL := hLL.new hb123
                    replace hT := hT.new hb123
                    replace hr16 := hr16.new hb123
                    refine WR_yes rfl ?_
                    refine WR_val rfl (rn_lenSl (e := 3) (sz := 1) (by kernel_rfl) rfl rfl) ?_
                    refine WR_yes rfl ?_
                    refine WR_val rfl (rn_eql rfl rfl) ?_
                    refine WR_val rfl (rn_pick_f rfl) ?_
                    refine WR_nil ?_
                    refine thenN ?_
                    refine W_ifp rfl (fun k5 => ?_) (fun k5 => ?_)
                    ·
                      refine W_seq ?_
                      refine W_region ?_
                      refine WR_val rfl (rn_move) ?_
                      have hcm := hL.commit (by omega) (by omega) (by omega) hn1 hn2
                      have hac := aCommit hT hL.p
                      rw [hcm.1] at hac
                      refine WR_ent rfl (rn_call (by kernel_rfl) rfl) (hac) ?_
                      rintro _ w128 ⟨rfl, hT, hb128⟩
                      replace hLL := hLL.ll hb128 (by first | (intro b hb; exact hb) | (intro b hb; simp [hb]; done) | simp)
                      replace hr16 := hr16.kpd hb128.kp (by first | (refine notLL ?_; left; omega) | (refine notLL ?_; right; simp; done) | (intro b o e; cases e; first | (refine notLL ?_; left; omega) | (refine notLL ?_; right; simp; done) | (refine notLL ?_; right; simp [*]; done)) | (intro b hb; refine notLL ?_; left; omega) | (intro b hb e; cases e; exact notLL (by right; simp [*]) hb))
                      refine WR_val rfl (rn_neq rfl rfl) ?_
                      refine WR_val rfl (rn_move) ?_
                      refine WR_fp 130 rfl ((by simp)) ?_
                      refine WR_yes rfl ?_
                      refine WR_val rfl (rn_move) ?_
                      refine WR_yes rfl ?_
                      have hbc := bCommit hT hL.q
                      rw [hcm.2.1] at hbc
                      refine WR_ent rfl (rn_call (by kernel_rfl) rfl) (hbc) ?_
                      rintro _ w132 ⟨rfl, hT, hb132⟩
                      replace hLL := hLL.ll hb132 (by first | (intro b hb; exact hb) | (intro b hb; simp [hb]; done) | simp)
                      replace hr16 := hr16.kpd hb132.kp (by first | (refine notLL ?_; left; omega) | (refine notLL ?_; right; simp; done) | (intro b o e; cases e; first | (refine notLL ?_; left; omega) | (refine notLL ?_; right; simp; done) | (refine notLL ?_; right; simp [*]; done)) | (intro b hb; refine notLL ?_; left; omega) | (intro b hb e; cases e; exact notLL (by right; simp [*]) hb))
                      refine WR_yes rfl ?_
                      refine WR_val rfl (rn_neq rfl rfl) ?_
                      refine WR_val rfl (rn_pick_f rfl) ?_
                      refine WR_nil ?_
                      refine thenN ?_
                      refine W_fp rfl ((by simp)) ?_
                      refine W_skip ?_
                      refine blockN ?_
                      refine thenN ?_
                      refine W_region ?_
                      refine WR_val rfl (rn_move) ?_
                      refine WR_val rfl (rn_add rfl rfl (Coup.w64 (by omega))) ?_
                      refine WR_val rfl (rn_assign) ?_
                      refine WR_nil ?_
                      refine loopN ⟨(i + 1, ((commitP P1).2, (commitP Q1).2), viewC P1 V), by omega, ⟨by go_num, rfl, rfl, rfl, rfl, rfl, rfl, rfl, rfl, rfl⟩, by omega, hcm.2.2.1.up (by omega), by dsimp only; rw [hcm.2.2.2]; exact Nat.zero_le _, hT.weak (fun b hb => nomatch hb), hLL⟩
                    ·
                      have hkl2 : (recP P1).length ≤ 2 := by
                        rw [rec_len]
                        have hk5 : ¬ ((keysP P1.ch P1.n).length : Int) = 3 := k5
                        omega
                      refine W_skip ?_
                      refine blockN ?_
                      refine thenN ?_
                      refine W_region ?_
                      refine WR_val rfl (rn_move) ?_
                      refine WR_val rfl (rn_add rfl rfl (Coup.w64 (by omega))) ?_
                      refine WR_val rfl (rn_assign) ?_
                      refine WR_nil ?_
                      refine loopN ⟨(i + 1, (P1, Q1), V), by omega, ⟨by go_num, rfl, rfl, rfl, rfl, rfl, rfl, rfl, rfl, rfl⟩, by omega, hL.up (by omega), hkl2, hT.weak (fun b hb => nomatch hb), hLL⟩
              ·
                refine W_exit ?_
                refine thenX ?_
                refine loopX ?_
                refine blockX ?_
                refine thenN ?_
                refine W_seq ?_
                refine W_region ?_
                refine WR_val rfl (rn_move) ?_
                refine WR_ent rfl (rn_call (by kernel_rfl) rfl) (aAbort hT hL.p) ?_
                rintro _ w136 ⟨rfl, hT, hb136⟩
                replace hLL := hLL.ll hb136 (by first | (intro b hb; exact hb) | (intro b hb; simp [hb]; done) | simp)
                refine WR_nil ?_
                refine thenN ?_
                refine W_seq ?_
                refine W_region ?_
                refine WR_val rfl (rn_move) ?_
                refine WR_ent rfl (rn_call (by kernel_rfl) rfl) (bAbort hT hL.q) ?_
                rintro _ w138 ⟨rfl, hT, hb138⟩
                replace hLL := hLL.ll hb138 (by first | (intro b hb; exact hb) | (intro b hb; simp [hb]; done) | simp)
                refine WR_nil ?_
                refine thenN ?_
                refine W_seq ?_
                refine W_seq ?_
                refine W_region ?_
                refine WR_val rfl (rn_assign) ?_
                refine WR_nil ?_
                refine thenN ?_
                refine W_block ?_
                have hLa := hL.abort.up (k2 := 100) (by omega)
                refine W_loop (α := Nat × (Pl × Pl)) (0, ({ P with ch := noP }, { Q with ch := noP })) (fun a => [(17, .int .i64 (a.1 : Nat)), (10, .pointer (some ⟨q, 0, none⟩)), (13, .pointer (some ⟨q2, 0, none⟩)), (9, .pointer (some ⟨g, 0, none⟩)), (12, .pointer (some ⟨g2, 0, none⟩)), (0, .int .i64 (P0 : Int)), (1, .int .i64 (S0 : Int)), (2, .int .i64 (T0 : Int))])
                  (fun a w' => a.1 ≤ P0 ∧ LI a.2.1 a.2.2 V 100 P0 S0 T0 ∧ a.2.1.ch = noP ∧ AtZ [dzT g a.2.1.D, prT g q a.2.1, dzT g2 a.2.2.D, prT g2 q2 a.2.2] w.heap.size [] w' ∧ LoL w.heap.size [] w w') (fun a => P0 - a.1)
                  ⟨rfl, rfl, rfl, rfl, rfl, rfl, rfl, rfl, rfl⟩ ⟨Nat.zero_le _, hLa, rfl, hT, hLL⟩ ?_
                clear hT hLL hLa hL hr2
                rintro ⟨j, P1, Q1⟩ f2 w2 ⟨hj, hL, hch, hT, hLL⟩
                dsimp only at hj hL hch hT hLL
                refine W_seq ?_
                refine W_seq ?_
                refine W_region ?_
                refine WR_val rfl (rn_move) ?_
                refine WR_val rfl (rn_move) ?_
                refine WR_val rfl (rn_lss rfl rfl) ?_
                refine WR_nil ?_
                refine thenN ?_
                refine W_ifp rfl (fun hlt2 => ?_) (fun hlt2 => ?_)
                ·
                  refine W_skip ?_
                  refine thenN ?_
                  refine W_seq ?_
                  refine W_block ?_
                  refine W_seq ?_
                  have hjp : j < P1.n := by rw [hL.np]; omega
                  have hjq : j < Q1.n := by rw [hL.nq]; omega
                  have hchq : Q1.ch = noP := by rw [hL.ch]; exact hch
                  have hVl := hL.p.ln j hjp
                  have hVb : (bv (V j)).length = 512 := by rw [bv_length]; exact hVl
                  have hga := aGet hT hL.p (j : Int)
                  rw [gX_V hjp hch, rdE_0 hjp] at hga
                  have hzs := hLL.size
                  refine W_region ?_
                  refine WR_val rfl (rn_move) ?_
                  refine WR_val rfl (rn_move) ?_
                  refine WR_ent rfl (rn_call (by kernel_rfl) rfl) (hga) ?_
                  rintro _ w147 ⟨rfl, hT, hb147⟩
                  replace hLL := hLL.ll hb147 (by first | (intro b hb; exact hb) | (intro b hb; simp [hb]; done) | simp)
                  refine WR_val rfl (rn_move) ?_
                  refine WR_val rfl (rn_extract rfl rfl) ?_
                  refine WR_val rfl (rn_extract rfl rfl) ?_
                  have hzs1 := hLL.size
                  refine WR_mk rfl (mk_alloc (List.replicate 512 (Value.int .u8 0)) (by kernel_rfl) (fun g18 w18 hg18 hr18 hb18 => ?_))
                  replace hLL := hLL.new hb18
                  replace hT := hT.newc hb18 hg18 hr18.lt
                  refine WR_sk rfl (sk_storeA 512 (bv (V j)) rfl rfl hr18 (by kernel_rfl) (by first | assumption | (simp; done) | (simp [bv_length, *]; done)) (by first | assumption | (simp; done) | (simp [bv_length, *]; done) | rfl) (by first | exact bv_one _ | assumption | (simp [Value.oneCell']; done)) (fun w907 hr18 ho907 => ?_))
                  replace hLL := hLL.only ho907 (by first | omega | (right; exact ⟨by omega, by assumption⟩))
                  replace hT := hT.only ho907 (by first | (right; simp; done) | (left; omega))
                  refine WR_val rfl (rn_assign) ?_
                  refine WR_nil ?_
                  refine thenN ?_
                  refine W_seq ?_
                  refine W_region ?_
                  refine WR_val rfl (rn_move) ?_
                  refine WR_val rfl (rn_move) ?_
                  have hgb := bGet hT hL.q (j : Int)
                  rw [gX_V hjq hchq, rdE_0 hjq] at hgb
                  refine WR_ent rfl (rn_call (by kernel_rfl) rfl) (hgb) ?_
                  rintro _ w153 ⟨rfl, hT, hb153⟩
                  replace hLL := hLL.ll hb153 (by first | (intro b hb; exact hb) | (intro b hb; simp [hb]; done) | simp)
                  replace hr18 := hr18.kpd hb153.kp (by first | (refine notLL ?_; left; omega) | (refine notLL ?_; right; simp; done) | (intro b o e; cases e; first | (refine notLL ?_; left; omega) | (refine notLL ?_; right; simp; done) | (refine notLL ?_; right; simp [*]; done)) | (intro b hb; refine notLL ?_; left; omega) | (intro b hb e; cases e; exact notLL (by right; simp [*]) hb))
                  refine WR_val rfl (rn_move) ?_
                  refine WR_val rfl (rn_extract rfl rfl) ?_
                  refine WR_val rfl (rn_extract rfl rfl) ?_
                  have hzs2 := hLL.size
                  refine WR_mk rfl (mk_alloc (List.replicate 512 (Value.int .u8 0)) (by kernel_rfl) (fun g20 w20 hg20 hr20 hb20 => ?_))
                  have lt_g18_g20 : g18 < g20 := Nat.lt_of_lt_of_le hr18.lt hg20
                  replace hLL := hLL.new hb20
                  replace hT := hT.newc hb20 hg20 hr20.lt
                  replace hr18 := hr18.new hb20
                  refine WR_sk rfl (sk_storeA 512 (bv (V j)) rfl rfl hr20 (by kernel_rfl) (by first | assumption | (simp; done) | (simp [bv_length, *]; done)) (by first | assumption | (simp; done) | (simp [bv_length, *]; done) | rfl) (by first | exact bv_one _ | assumption | (simp [Value.oneCell']; done)) (fun w908 hr20 ho908 => ?_))
                  replace hLL := hLL.only ho908 (by first | omega | (right; exact ⟨by omega, by assumption⟩))
                  replace hT := hT.only ho908 (by first | (right; simp; done) | (left; omega))
                  replace hr18 := hr18.only ho908 (Nat.ne_of_lt lt_g18_g20)
                  refine WR_val rfl (rn_assign) ?_
                  refine WR_nil ?_
                  refine thenN ?_
                  refine W_seq ?_
                  refine W_region ?_
                  refine WR_val rfl (rn_move) ?_
                  refine WR_val rfl (rn_neq rfl rfl) ?_
                  refine WR_val rfl (rn_move) ?_
                  refine WR_fp 158 rfl ((by simp)) ?_
                  refine WR_yes rfl ?_
                  refine WR_val rfl (rn_move) ?_
                  refine WR_yes rfl ?_
                  refine WR_val rfl (rn_neq rfl rfl) ?_
                  refine WR_val rfl (rn_pick_f rfl) ?_
                  refine WR_val rfl (rn_move) ?_
                  refine WR_fp 162 rfl ((by simp)) ?_
                  refine WR_yes rfl ?_
                  refine WR_val rfl (rn_load rfl (Ld.rowA (k := 512) hr18 (by kernel_rfl) (by kernel_rfl) (by first | (simp; done) | (simp [bv_length, *]; done) | assumption))) ?_
                  refine WR_yes rfl ?_
                  refine WR_val rfl (rn_load rfl (Ld.rowA (k := 512) hr20 (by kernel_rfl) (by kernel_rfl) (by first | (simp; done) | (simp [bv_length, *]; done) | assumption))) ?_
                  refine WR_yes rfl ?_
                  refine WR_val rfl (rn_neqA (n := 512) (by kernel_rfl) rfl rfl hVl hVl) ?_
                  refine WR_val rfl (rn_pick_f rfl) ?_
                  refine WR_nil ?_
                  refine thenN ?_
                  refine W_fn rfl ((by simp)) ?_
                  refine W_skip ?_
                  refine blockN ?_
                  refine thenN ?_
                  refine W_region ?_
                  refine WR_val rfl (rn_move) ?_
                  refine WR_val rfl (rn_add rfl rfl (Coup.w64 (by omega))) ?_
                  refine WR_val rfl (rn_assign) ?_
                  refine WR_nil ?_
                  refine loopN ⟨(j + 1, gP P1 j, gP Q1 j), by omega, ⟨by go_num, rfl, rfl, rfl, rfl, rfl, rfl, rfl, rfl⟩, by omega, (hL.getP _).getQ _, (SameF.get P1 _).ch.trans hch, hT.weak (fun b hb => nomatch hb), hLL⟩
                ·
                  have hobT := hL.pl
                  have hobT2 := hL.ql
                  obtain ⟨TA, hTA⟩ := hobT
                  obtain ⟨TB, hTB⟩ := hobT2
                  have hoA := hTA.reopen hL.p (by omega) (fr := 4) (by omega) (by omega)
                  have hoB := hTB.reopen hL.q (by omega) (fr := 4) (by omega) (by omega)
                  obtain ⟨_, _, _, _, oi, on, oc, ol, _, od, os⟩ := hoA
                  obtain ⟨_, _, _, _, ri, rn, rc, rl, _, rd, rs⟩ := hoB
                  have hopA := fun L' w' (h' : AtZ (dzT g P1.D :: [prT g q P1, dzT g2 Q1.D, prT g2 q2 Q1]) w.heap.size L' w') => aOpen h' hL.p hTA (by omega) 4 (by omega) (by omega)
                  have hopB := fun (l : List TH) L' w' (h' : AtZ (dzT g2 Q1.D :: l) w.heap.size L' w') => aOpen h' hL.q hTB (by omega) 4 (by omega) (by omega)
                  have hst := stale hL.p oi od on os ol
                  rw [hL.sp] at hopA oi on oc ol od os hst
                  rw [hL.sq] at hopB ri rn rc rl rd rs
                  rw [hL.np] at on
                  rw [hL.nq] at rn
                  generalize (openR P1.D S0 4).2 = O at *
                  generalize (openR Q1.D T0 4).2 = R2 at *
                  have hpe : prT g q P1 = prT g q { P1 with D := O.D } := TH.ext' (pr_D ol).symm
                  have hP5n : ({ P1 with D := O.D } : Pl).n = P0 := by unfold Pl.n; dsimp only; rw [ol]; exact hL.np
                  have hP5c : ({ P1 with D := O.D } : Pl).ch = noP := hch
                  have hP5D : ({ P1 with D := O.D } : Pl).D = O.D := rfl
                  refine W_exit ?_
                  refine thenX ?_
                  refine loopX ?_
                  refine blockX ?_
                  refine thenN ?_
                  refine W_seq ?_
                  refine W_region ?_
                  refine WR_val rfl (rn_move) ?_
                  refine WR_val rfl (rn_move) ?_
                  refine WR_ent rfl (rn_call (by kernel_rfl) rfl) (hopA _ w2 hT) ?_
                  rintro _ w170 ⟨⟨qo, rfl, hT⟩, hb170⟩
                  replace hLL := hLL.ll hb170 (by first | (intro b hb; exact hb) | (intro b hb; simp [hb]; done) | simp)
                  refine WR_val rfl (rn_move) ?_
                  refine WR_val rfl (rn_extract rfl rfl) ?_
                  refine WR_val rfl (rn_extract rfl rfl) ?_
                  refine WR_val rfl (rn_assign) ?_
                  refine WR_val rfl (rn_assign) ?_
                  refine WR_nil ?_
                  refine thenN ?_
                  refine W_seq ?_
                  refine W_region ?_
                  refine WR_val rfl (rn_move) ?_
                  refine WR_val rfl (rn_move) ?_
                  have hT2 := hT.perm (List.perm_middle (l₁ := [dzT g O.D, prT g qo O, prT g q P1]) (a := dzT g2 Q1.D) (l₂ := [prT g2 q2 Q1]))
                  refine WR_ent rfl (rn_call (by kernel_rfl) rfl) (hopB _ _ w170 hT2) ?_
                  rintro _ w176 ⟨⟨qr, rfl, hT⟩, hb176⟩
                  replace hLL := hLL.ll hb176 (by first | (intro b hb; exact hb) | (intro b hb; simp [hb]; done) | simp)
                  refine WR_val rfl (rn_move) ?_
                  refine WR_val rfl (rn_extract rfl rfl) ?_
                  refine WR_val rfl (rn_extract rfl rfl) ?_
                  refine WR_val rfl (rn_assign) ?_
                  refine WR_val rfl (rn_assign) ?_
                  refine WR_nil ?_
                  refine thenN ?_
                  refine W_seq ?_
                  refine W_seq ?_
                  refine W_region ?_
                  refine WR_val rfl (rn_move) ?_
                  refine WR_val rfl (rn_neq rfl rfl) ?_
                  refine WR_val rfl (rn_move) ?_
                  refine WR_fp 181 rfl ((by simp)) ?_
                  refine WR_yes rfl ?_
                  refine WR_val rfl (rn_move) ?_
                  refine WR_yes rfl ?_
                  refine WR_val rfl (rn_neq rfl rfl) ?_
                  refine WR_val rfl (rn_pick_f rfl) ?_
                  refine WR_nil ?_
                  refine thenN ?_
                  refine W_fp rfl ((by simp)) ?_
                  refine W_skip ?_
                  refine thenN ?_
                  refine W_seq ?_
                  refine W_seq ?_
                  refine W_region ?_
                  refine WR_val rfl (rn_assign) ?_
                  refine WR_nil ?_
                  refine thenN ?_
                  refine W_block ?_
                  have hT6 : AtZ [dzT g O.D, prT g qo O, prT g q { P1 with D := O.D }, dzT g2 R2.D, prT g2 qr R2, prT g2 q2 Q1] w.heap.size [] w176 := by
                    rw [← hpe]
                    exact hT.perm ((List.perm_append_comm (l₁ := [dzT g2 R2.D, prT g2 qr R2]) (l₂ := [dzT g O.D, prT g qo O, prT g q P1])).append_right [prT g2 q2 Q1])
                  have hobt : ∃ DO, O.D = DO := ⟨_, rfl⟩
                  obtain ⟨DO, hDO⟩ := hobt
                  have hobt : ∃ DR, R2.D = DR := ⟨_, rfl⟩
                  obtain ⟨DR, hDR⟩ := hobt
                  generalize ({ P1 with D := O.D } : Pl) = P5 at *
                  rw [hDO] at hT6 hP5D
                  rw [hDR] at hT6
                  refine W_loop (α := Nat × Pl × Pl × Pl) (0, O, P5, R2) (fun a => [(26, .int .i64 (a.1 : Nat)), (0, .int .i64 (P0 : Int)), (22, .pointer (some ⟨qo, 0, none⟩)), (24, .pointer (some ⟨qr, 0, none⟩)), (10, .pointer (some ⟨q, 0, none⟩))])
                    (fun a w' => a.1 ≤ P0 ∧ (PlI a.2.1 V 102 ∧ PlI a.2.2.1 V 100 ∧ PlI a.2.2.2 V 102) ∧ (a.2.1.n = P0 ∧ a.2.2.1.n = P0 ∧ a.2.2.2.n = P0) ∧ (a.2.1.ch = noP ∧ a.2.2.1.ch = noP ∧ a.2.2.2.ch = noP) ∧ (a.2.1.D = DO ∧ a.2.2.1.D = DO ∧ a.2.2.2.D = DR) ∧ AtZ [dzT g DO, prT g qo a.2.1, prT g q a.2.2.1, dzT g2 DR, prT g2 qr a.2.2.2, prT g2 q2 Q1] w.heap.size [] w' ∧ LoL w.heap.size [] w w') (fun a => P0 - a.1)
                    ⟨rfl, rfl, rfl, rfl, rfl, rfl⟩ ⟨Nat.zero_le _, ⟨oi, hst, ri⟩, ⟨on, hP5n, rn⟩, ⟨oc, hP5c, rc⟩, ⟨hDO, hP5D, hDR⟩, hT6, hLL⟩ ?_
                  clear hT hT6 hLL oi hst ri on hP5n rn oc hP5c rc hP5D
                  rintro ⟨m, A, C, E⟩ f3 w3 ⟨hm, ⟨iA, iC, iE⟩, ⟨nA, nC, nE⟩, ⟨cA, cC, cE⟩, ⟨dA, dC, dE⟩, hT, hLL⟩
                  dsimp only at hm iA iC iE nA nC nE cA cC cE dA dC dE hT hLL
                  refine W_seq ?_
                  refine W_seq ?_
                  refine W_region ?_
                  refine WR_val rfl (rn_move) ?_
                  refine WR_val rfl (rn_move) ?_
                  refine WR_val rfl (rn_lss rfl rfl) ?_
                  refine WR_nil ?_
                  refine thenN ?_
                  refine W_ifp rfl (fun hlt3 => ?_) (fun hlt3 => ?_)
                  ·
                    refine W_skip ?_
                    refine thenN ?_
                    refine W_seq ?_
                    refine W_block ?_
                    refine W_seq ?_
                    have hmA : m < A.n := by rw [nA]; omega
                    have hmC : m < C.n := by rw [nC]; omega
                    have hmE : m < E.n := by rw [nE]; omega
                    have hVl := iA.ln m hmA
                    have hVb : (bv (V m)).length = 512 := by rw [bv_length]; exact hVl
                    have hga := cGet hT (List.Perm.refl _) dA iA (m : Int) (List.Perm.refl _)
                    rw [gX_V hmA cA, rdE_0 hmA] at hga
                    refine W_region ?_
                    refine WR_val rfl (rn_move) ?_
                    refine WR_val rfl (rn_move) ?_
                    refine WR_ent rfl (rn_call (by kernel_rfl) rfl) (hga) ?_
                    rintro _ w193 ⟨rfl, hT, hb193⟩
                    replace hLL := hLL.ll hb193 (by first | (intro b hb; exact hb) | (intro b hb; simp [hb]; done) | simp)
                    refine WR_val rfl (rn_move) ?_
                    refine WR_val rfl (rn_extract rfl rfl) ?_
                    refine WR_val rfl (rn_extract rfl rfl) ?_
                    have hzs1 := hLL.size
                    refine WR_mk rfl (mk_alloc (List.replicate 512 (Value.int .u8 0)) (by kernel_rfl) (fun g27 w27 hg27 hr27 hb27 => ?_))
                    replace hLL := hLL.new hb27
                    replace hT := hT.newc hb27 hg27 hr27.lt
                    refine WR_sk rfl (sk_storeA 512 (bv (V m)) rfl rfl hr27 (by kernel_rfl) (by first | assumption | (simp; done) | (simp [bv_length, *]; done)) (by first | assumption | (simp; done) | (simp [bv_length, *]; done) | rfl) (by first | exact bv_one _ | assumption | (simp [Value.oneCell']; done)) (fun w909 hr27 ho909 => ?_))
                    replace hLL := hLL.only ho909 (by first | omega | (right; exact ⟨by omega, by assumption⟩))
                    replace hT := hT.only ho909 (by first | (right; simp; done) | (left; omega))
                    refine WR_val rfl (rn_assign) ?_
                    refine WR_nil ?_
                    refine thenN ?_
                    refine W_seq ?_
                    refine W_region ?_
                    refine WR_val rfl (rn_move) ?_
                    refine WR_val rfl (rn_move) ?_
                    have hgb := cGet hT ((List.perm_append_comm (l₁ := [dzT g DO, prT g qo (gP A m), prT g q C]) (l₂ := [dzT g2 DR, prT g2 qr E])).append_right [prT g2 q2 Q1]) dE iE (m : Int) ((List.perm_append_comm (l₁ := [dzT g2 DR, prT g2 qr (gP E m)]) (l₂ := [dzT g DO, prT g qo (gP A m), prT g q C])).append_right [prT g2 q2 Q1])
                    rw [gX_V hmE cE, rdE_0 hmE] at hgb
                    refine WR_ent rfl (rn_call (by kernel_rfl) rfl) (hgb) ?_
                    rintro _ w199 ⟨rfl, hT, hb199⟩
                    replace hLL := hLL.ll hb199 (by first | (intro b hb; exact hb) | (intro b hb; simp [hb]; done) | simp)
                    replace hr27 := hr27.kpd hb199.kp (by first | (refine notLL ?_; left; omega) | (refine notLL ?_; right; simp; done) | (intro b o e; cases e; first | (refine notLL ?_; left; omega) | (refine notLL ?_; right; simp; done) | (refine notLL ?_; right; simp [*]; done)) | (intro b hb; refine notLL ?_; left; omega) | (intro b hb e; cases e; exact notLL (by right; simp [*]) hb))
                    refine WR_val rfl (rn_move) ?_
                    refine WR_val rfl (rn_extract rfl rfl) ?_
                    refine WR_val rfl (rn_extract rfl rfl) ?_
                    have hzs2 := hLL.size
                    refine WR_mk rfl (mk_alloc (List.replicate 512 (Value.int .u8 0)) (by kernel_rfl) (fun g29 w29 hg29 hr29 hb29 => ?_))
                    have lt_g27_g29 : g27 < g29 := Nat.lt_of_lt_of_le hr27.lt hg29
                    replace hLL := hLL.new hb29
                    replace hT := hT.newc hb29 hg29 hr29.lt
                    replace hr27 := hr27.new hb29
                    refine WR_sk rfl (sk_storeA 512 (bv (V m)) rfl rfl hr29 (by kernel_rfl) (by first | assumption | (simp; done) | (simp [bv_length, *]; done)) (by first | assumption | (simp; done) | (simp [bv_length, *]; done) | rfl) (by first | exact bv_one _ | assumption | (simp [Value.oneCell']; done)) (fun w910 hr29 ho910 => ?_))
                    replace hLL := hLL.only ho910 (by first | omega | (right; exact ⟨by omega, by assumption⟩))
                    replace hT := hT.only ho910 (by first | (right; simp; done) | (left; omega))
                    replace hr27 := hr27.only ho910 (Nat.ne_of_lt lt_g27_g29)
                    refine WR_val rfl (rn_assign) ?_
                    refine WR_nil ?_
                    refine thenN ?_
                    refine W_seq ?_
                    refine W_region ?_
                    refine WR_val rfl (rn_move) ?_
                    refine WR_val rfl (rn_move) ?_
                    have hgc := cGet (q := q) (P := C) (D := DO) (l' := [prT g qo (gP A m), dzT g2 DR, prT g2 qr (gP E m), prT g2 q2 Q1]) hT ((List.Perm.swap _ _ _).cons _) dC iC (m : Int) ((List.Perm.swap _ _ _).cons _)
                    rw [gX_V hmC cC, rdE_0 hmC] at hgc
                    refine WR_ent rfl (rn_call (by kernel_rfl) rfl) (hgc) ?_
                    rintro _ w205 ⟨rfl, hT, hb205⟩
                    replace hLL := hLL.ll hb205 (by first | (intro b hb; exact hb) | (intro b hb; simp [hb]; done) | simp)
                    replace hr27 := hr27.kpd hb205.kp (by first | (refine notLL ?_; left; omega) | (refine notLL ?_; right; simp; done) | (intro b o e; cases e; first | (refine notLL ?_; left; omega) | (refine notLL ?_; right; simp; done) | (refine notLL ?_; right; simp [*]; done)) | (intro b hb; refine notLL ?_; left; omega) | (intro b hb e; cases e; exact notLL (by right; simp [*]) hb))
                    replace hr29 := hr29.kpd hb205.kp (by first | (refine notLL ?_; left; omega) | (refine notLL ?_; right; simp; done) | (intro b o e; cases e; first | (refine notLL ?_; left; omega) | (refine notLL ?_; right; simp; done) | (refine notLL ?_; right; simp [*]; done)) | (intro b hb; refine notLL ?_; left; omega) | (intro b hb e; cases e; exact notLL (by right; simp [*]) hb))
                    refine WR_val rfl (rn_move) ?_
                    refine WR_val rfl (rn_extract rfl rfl) ?_
                    refine WR_val rfl (rn_extract rfl rfl) ?_
                    have hzs3 := hLL.size
                    refine WR_mk rfl (mk_alloc (List.replicate 512 (Value.int .u8 0)) (by kernel_rfl) (fun g31 w31 hg31 hr31 hb31 => ?_))
                    have lt_g27_g31 : g27 < g31 := Nat.lt_of_lt_of_le hr27.lt hg31
                    have lt_g29_g31 : g29 < g31 := Nat.lt_of_lt_of_le hr29.lt hg31
                    replace hLL := hLL.new hb31
                    replace hT := hT.newc hb31 hg31 hr31.lt
                    replace hr27 := hr27.new hb31
                    replace hr29 := hr29.new hb31
                    refine WR_sk rfl (sk_storeA 512 (bv (V m)) rfl rfl hr31 (by kernel_rfl) (by first | assumption | (simp; done) | (simp [bv_length, *]; done)) (by first | assumption | (simp; done) | (simp [bv_length, *]; done) | rfl) (by first | exact bv_one _ | assumption | (simp [Value.oneCell']; done)) (fun w911 hr31 ho911 => ?_))
                    replace hLL := hLL.only ho911 (by first | omega | (right; exact ⟨by omega, by assumption⟩))
                    replace hT := hT.only ho911 (by first | (right; simp; done) | (left; omega))
                    replace hr27 := hr27.only ho911 (Nat.ne_of_lt lt_g27_g31)
                    replace hr29 := hr29.only ho911 (Nat.ne_of_lt lt_g29_g31)
                    refine WR_val rfl (rn_assign) ?_
                    refine WR_nil ?_
                    refine thenN ?_
                    refine W_seq ?_
                    refine W_region ?_
                    refine WR_val rfl (rn_load rfl (Ld.rowA (k := 512) hr27 (by kernel_rfl) (by kernel_rfl) (by first | (simp; done) | (simp [bv_length, *]; done) | assumption))) ?_
                    refine WR_val rfl (rn_load rfl (Ld.rowA (k := 512) hr29 (by kernel_rfl) (by kernel_rfl) (by first | (simp; done) | (simp [bv_length, *]; done) | assumption))) ?_
                    refine WR_val rfl (rn_neqA (n := 512) (by kernel_rfl) rfl rfl hVl hVl) ?_
                    refine WR_val rfl (rn_move) ?_
                    refine WR_fn 211 rfl ((by simp)) ?_
                    refine WR_yes rfl ?_
                    refine WR_val rfl (rn_load rfl (Ld.rowA (k := 512) hr27 (by kernel_rfl) (by kernel_rfl) (by first | (simp; done) | (simp [bv_length, *]; done) | assumption))) ?_
                    refine WR_yes rfl ?_
                    refine WR_val rfl (rn_load rfl (Ld.rowA (k := 512) hr31 (by kernel_rfl) (by kernel_rfl) (by first | (simp; done) | (simp [bv_length, *]; done) | assumption))) ?_
                    refine WR_yes rfl ?_
                    refine WR_val rfl (rn_neqA (n := 512) (by kernel_rfl) rfl rfl hVl hVl) ?_
                    refine WR_val rfl (rn_pick_f rfl) ?_
                    refine WR_nil ?_
                    refine thenN ?_
                    refine W_fn rfl ((by simp)) ?_
                    refine W_skip ?_
                    refine blockN ?_
                    refine thenN ?_
                    refine W_region ?_
                    refine WR_val rfl (rn_move) ?_
                    refine WR_val rfl (rn_add rfl rfl (Coup.w64 (by omega))) ?_
                    refine WR_val rfl (rn_assign) ?_
                    refine WR_nil ?_
                    refine loopN ⟨(m + 1, gP A m, gP C m, gP E m), by omega, ⟨by go_num, rfl, rfl, rfl, rfl, rfl⟩, by omega, ⟨iA.gP _, iC.gP _, iE.gP _⟩, ⟨(SameF.get A _).n.trans nA, (SameF.get C _).n.trans nC, (SameF.get E _).n.trans nE⟩, ⟨(SameF.get A _).ch.trans cA, (SameF.get C _).ch.trans cC, (SameF.get E _).ch.trans cE⟩, ⟨(SameF.get A _).D.trans dA, (SameF.get C _).D.trans dC, (SameF.get E _).D.trans dE⟩, hT.weak (fun b hb => nomatch hb), hLL⟩
                  ·
                    refine W_exit ?_
                    refine thenX ?_
                    refine loopX ?_
                    refine blockX ?_
                    refine thenN ?_
                    refine W_seq ?_
                    refine W_region ?_
                    refine WR_ent rfl (rn_call (by kernel_rfl) rfl) (known06 w3) ?_
                    rintro _ w216 ⟨rfl, hb216⟩
                    replace hLL := hLL.new hb216
                    replace hT := hT.new hb216
                    refine WR_val rfl (rn_assign) ?_
                    refine WR_nil ?_
                    refine thenN ?_
                    refine W_ret ?_
                    refine ret_ret [_] ⟨rfl, trivial⟩ ?_
                    exact ⟨rfl, hLL⟩
end Go.Proofs.YtielfpkjoidomaaGreat
