import Derived.Test.YtkkgahgpemepeaaGreatM5
namespace Go.Proofs.YtkkgahgpemepeaaGreat
open Go Go.RowKit Coup
def rlC (c s n : Nat) (p : Option Addr) (S : List Rec) (cp a : Nat) : List Value := [.int .u64 (c : Int), .int .u64 (s : Int), .int .i64 (n : Int), .slice p S.length cp, .int .i64 (a : Int)]
structure WAt (lo : Nat) (L : List Nat) (w : World) (y c s n a : Nat) (S : List Rec) : Prop where
  ex : ∃ p cp L1, row w y (rlC c s n p S cp a) 43 ∧ AllL lo L1 w p S ∧ y ∉ L1 ∧ ∀ b ∈ L1, b ∈ L
  inL : y ∈ L
  ge : lo ≤ y
section
variable {lo : Nat} {L L2 M : List Nat} {w w' : World} {y c s n a : Nat} {S : List Rec}
theorem WAt.kpd (h : WAt lo L w y c s n a S) (k : Kp M w w') (hM : ∀ b ∈ M, ¬ (b < lo ∨ b ∈ L)) : WAt lo L w' y c s n a S :=
  let ⟨p, cp, L1, h1, h2, h3, h4⟩ := h.ex; ⟨⟨p, cp, L1, h1.kpd k fun hm => hM y hm (.inr h.inL), h2.kpd k fun b hb hx => hM b hb (hx.imp id (h4 b)), h3, h4⟩, h.inL, h.ge⟩
theorem WAt.new (h : WAt lo L w y c s n a S) (hb : Below w.heap.size w w') : WAt lo L w' y c s n a S := h.kpd (M := []) (Kp.of_below hb) (by simp)
theorem WAt.ll (h : WAt lo L w y c s n a S) (k : LoL lo L2 w w') (h2 : ∀ b ∈ L, b ∈ L2) : WAt lo L w' y c s n a S := h.kpd k.kp (outL_no h2)
theorem WAt.only {g : Nat} (h : WAt lo L w y c s n a S) (ho : Only g w w') (hg : False ∨ (lo ≤ g ∧ g ∉ L)) : WAt lo L w' y c s n a S := h.kpd (Kp.of_only ho) fun b hb hx => by
  rw [List.mem_singleton.1 hb] at hx
  exact hg.elim id fun hg => hx.elim (fun h => by omega) hg.2
theorem _root_.Go.Proofs.YtkkgahgpemepeaaGreat.RecL.only {g : Nat} {q : Option Addr} {r : Rec} (h : RecL lo L w q r) (ho : Only g w w') (hg : False ∨ (lo ≤ g ∧ g ∉ L)) : RecL lo L w' q r := h.kpd (Kp.of_only ho) fun b hb hx => by
  rw [List.mem_singleton.1 hb] at hx
  exact hg.elim id fun hg => hx.elim (fun h => by omega) hg.2
theorem WAt.weak (h : WAt lo L w y c s n a S) (h2 : ∀ b ∈ L, b ∈ L2) : WAt lo L2 w y c s n a S :=
  let ⟨p, cp, L1, h1, h3, h4, h5⟩ := h.ex; ⟨⟨p, cp, L1, h1, h3, h4, fun b hb => h2 b (h5 b hb)⟩, h2 y h.inL, h.ge⟩
set_option maxRecDepth 20000 in
theorem row15f (c nn : Nat) (b : List UInt8) (p : Option Addr) (n cp : Nat) (w : World) (h : SlAt w p n 1 (bv b)) (hn : n ≤ 1000000) (hc : c < 18446744073709551616) (hnn : nn < 9223372036854775808) :
    Calls Tryz.prog 40 [.agg #[.int .u64 c, .int .i64 nn], .slice p n cp].toArray w
      (Ret fun v w' => (∃ q cq, v = .slice q (needN n) cq ∧ ownsAt w' w.heap.size 45 128 (.slice q (needN n) cq) (needN n) (bv (rowB c nn b))) ∧ Below w.heap.size w w') := by
  have hB := Below.refl w.heap.size w
  have hl : b.length = n := by simpa [bv_length] using h.len
  have hmn : manyN n ≤ 100000 := by unfold manyN; omega
  refine calls_W (fn := Tryz.f40) (rs := [.tmp 4]) (n := 9) Tryz.func40 rfl rfl Tryz.ntmps40 (by kernel_rfl) rfl ?_
  refine W_seq ?_
  refine W_region ?_
  refine WR_mk rfl (mk_box ([.int .u64 c, .int .i64 nn]) rfl (fun g2 w2 hg2 hr2 hb2 => ?_))
  have ge_hB_g2 := Nat.le_trans hB.size hg2
  replace hB := hB.acc hb2
  refine WR_val rfl (rn_assign) ?_
  refine WR_nil ?_
  refine thenN ?_
  refine W_seq ?_
  refine W_region ?_
  refine WR_val rfl (rn_load rfl (Ld.rowA (k := 2) hr2 (by kernel_rfl) (by kernel_rfl) (by first | (simp; done) | (simp [bv_length, *]; done) | assumption))) ?_
  refine WR_val rfl (rn_move) ?_
  refine WR_ent rfl (rn_call (by kernel_rfl) rfl) (halves19r c nn b p n cp w2 (h.below hB (Nat.le_refl _)) hn hc hnn) ?_
  rintro _ w7 ⟨vs, q, cq, rfl, hq, hsl, hb7⟩
  replace hr2 := hr2.new hb7
  replace hB := hB.acc hb7
  have hbz := hB.size
  refine WR_ent rfl (rn_call (by kernel_rfl) rfl) (sectors29 (halvesL c nn b) (halvesL_64 c nn b) _ vs q (manyN b.length) cq w7 hq hsl (halvesL_len c nn b) (by rw [hl]; exact hmn)) ?_
  rintro _ w8 ⟨hv8, hb8⟩
  replace hr2 := hr2.new hb8
  replace hB := hB.acc hb8
  refine WR_val rfl (rn_assign) ?_
  refine WR_nil ?_
  refine thenN ?_
  refine W_ret ?_
  refine ret_ret [_] ⟨rfl, trivial⟩ ?_
  obtain ⟨q2, cq2, rfl⟩ := hv8.form
  rw [hl] at hv8
  refine ⟨⟨q2, cq2, by rw [hl]; rfl, ?_⟩, hB⟩
  rw [rowB_secs]
  exact hv8.mono hbz
set_option maxRecDepth 20000 in
theorem looks26 {g x : Nat} {D : Dk} {G : Lg} (hG : LgAt g x None lo L D G w) (hw : WAt lo L w y c s n a S) (hc : G.count = c) (hs : G.since = s) (hn : G.num = S.length) (hz : G.size = n) (ha : G.at_ = a) (han : a ≤ n) (hn4 : n ≤ 4000) :
    Calls Tryz.prog 26 [.pointer (some ⟨x, 0, none⟩), .pointer (some ⟨y, 0, none⟩)].toArray w (Ret fun v w' => v = .bool true ∧ Below w.heap.size w w') := by
  have hB := Below.refl w.heap.size w
  obtain ⟨p, cp, L1, hy, _⟩ := hw.ex
  unfold rlC at hy
  subst hc hs hz ha
  refine calls_W (fn := Tryz.f26) (rs := [.tmp 4]) (n := 38) Tryz.func26 rfl rfl Tryz.ntmps26 (by kernel_rfl) rfl ?_
  refine W_seq ?_
  refine W_region ?_
  refine WR_val rfl (rn_assign) ?_
  refine WR_nil ?_
  refine thenN ?_
  refine W_seq ?_
  refine W_draw' [] (by kernel_rfl) ?_
  intro w901 hb901 hS901
  replace hG := hG.new hb901
  replace hy := hy.new hb901
  replace hB := hB.acc hb901
  have hG_d901 := hG
  have hy_d901 := hy
  have hB_d901 := hB
  refine WA_take 0 (by kernel_rfl) rfl (fun _ _ => rn_move) ?_
  refine WA_call 1 (by kernel_rfl) rfl (fun _ => rn_call (by kernel_rfl) rfl) (fun w' hS' => count20 (hG_d901.kpd hS' (by first | (simp; done) | (simp; omega) | (simp [*]; done) | exact notLL (Or.inl (by omega)) | exact notLL (Or.inr (by simp)) | exact fun g hm => Nat.le_trans (by omega) (inLL hm).1 | (intro b o e; cases e; exact notLL (Or.inl (by omega))) | (intro b hm; have := (hu.lt b (Option.mem_toList.1 hm)).1; omega) | (intro b o e; cases e; intro hm; have := (hu.lt _ (Option.mem_toList.1 hm)).1; omega)))) ?_
  refine WA_take 2 (by kernel_rfl) rfl (fun _ _ => rn_move) ?_
  refine WA_take 3 (by kernel_rfl) rfl (fun _ _ => rn_nilCheckP rfl) ?_
  refine WA_take 4 (by kernel_rfl) rfl (fun _ _ => rn_fieldAddr (off := 0) (by kernel_rfl) rfl) ?_
  refine WA_take 5 (by kernel_rfl) rfl (fun w' hS' => rn_load rfl (Ld.row1 (hy_d901.kpd hS' (by first | (simp; done) | (simp; omega) | (simp [*]; done) | exact notLL (Or.inl (by omega)) | exact notLL (Or.inr (by simp)) | exact fun g hm => Nat.le_trans (by omega) (inLL hm).1 | (intro b o e; cases e; exact notLL (Or.inl (by omega))) | (intro b hm; have := (hu.lt b (Option.mem_toList.1 hm)).1; omega) | (intro b o e; cases e; intro hm; have := (hu.lt _ (Option.mem_toList.1 hm)).1; omega))) (by kernel_rfl) rfl)) ?_
  refine WA_take 6 (by kernel_rfl) rfl (fun _ _ => rn_eql rfl rfl) ?_
  refine WA_take 7 (by kernel_rfl) rfl (fun _ _ => rn_move) ?_
  refine WA_tp 12 rfl (rfl) ?_
  refine WA_take 8 (by kernel_rfl) rfl (fun _ _ => rn_move) ?_
  refine WA_call 9 (by kernel_rfl) rfl (fun _ => rn_call (by kernel_rfl) rfl) (fun w' hS' => since21 (hG_d901.kpd hS' (by first | (simp; done) | (simp; omega) | (simp [*]; done) | exact notLL (Or.inl (by omega)) | exact notLL (Or.inr (by simp)) | exact fun g hm => Nat.le_trans (by omega) (inLL hm).1 | (intro b o e; cases e; exact notLL (Or.inl (by omega))) | (intro b hm; have := (hu.lt b (Option.mem_toList.1 hm)).1; omega) | (intro b o e; cases e; intro hm; have := (hu.lt _ (Option.mem_toList.1 hm)).1; omega)))) ?_
  refine WA_take 10 (by kernel_rfl) rfl (fun _ _ => rn_move) ?_
  refine WA_take 11 (by kernel_rfl) rfl (fun _ _ => rn_nilCheckP rfl) ?_
  refine WA_take 12 (by kernel_rfl) rfl (fun _ _ => rn_fieldAddr (off := 1) (by kernel_rfl) rfl) ?_
  refine WA_take 13 (by kernel_rfl) rfl (fun w' hS' => rn_load rfl (Ld.row1 (hy_d901.kpd hS' (by first | (simp; done) | (simp; omega) | (simp [*]; done) | exact notLL (Or.inl (by omega)) | exact notLL (Or.inr (by simp)) | exact fun g hm => Nat.le_trans (by omega) (inLL hm).1 | (intro b o e; cases e; exact notLL (Or.inl (by omega))) | (intro b hm; have := (hu.lt b (Option.mem_toList.1 hm)).1; omega) | (intro b o e; cases e; intro hm; have := (hu.lt _ (Option.mem_toList.1 hm)).1; omega))) (by kernel_rfl) rfl)) ?_
  refine WA_take 14 (by kernel_rfl) rfl (fun _ _ => rn_eql rfl rfl) ?_
  refine WA_take 15 (by kernel_rfl) rfl (fun _ _ => rn_pick_t rfl) ?_
  refine WA_take 16 (by kernel_rfl) rfl (fun _ _ => rn_move) ?_
  refine WA_tp 21 rfl (rfl) ?_
  refine WA_take 17 (by kernel_rfl) rfl (fun _ _ => rn_move) ?_
  refine WA_call 18 (by kernel_rfl) rfl (fun _ => rn_call (by kernel_rfl) rfl) (fun w' hS' => len22 (hG_d901.kpd hS' (by first | (simp; done) | (simp; omega) | (simp [*]; done) | exact notLL (Or.inl (by omega)) | exact notLL (Or.inr (by simp)) | exact fun g hm => Nat.le_trans (by omega) (inLL hm).1 | (intro b o e; cases e; exact notLL (Or.inl (by omega))) | (intro b hm; have := (hu.lt b (Option.mem_toList.1 hm)).1; omega) | (intro b o e; cases e; intro hm; have := (hu.lt _ (Option.mem_toList.1 hm)).1; omega)))) ?_
  refine WA_take 19 (by kernel_rfl) rfl (fun _ _ => rn_move) ?_
  refine WA_take 20 (by kernel_rfl) rfl (fun _ _ => rn_nilCheckP rfl) ?_
  refine WA_take 21 (by kernel_rfl) rfl (fun _ _ => rn_fieldAddr (off := 3) (by kernel_rfl) rfl) ?_
  refine WA_take 22 (by kernel_rfl) rfl (fun w' hS' => rn_load rfl (Ld.row1 (hy_d901.kpd hS' (by first | (simp; done) | (simp; omega) | (simp [*]; done) | exact notLL (Or.inl (by omega)) | exact notLL (Or.inr (by simp)) | exact fun g hm => Nat.le_trans (by omega) (inLL hm).1 | (intro b o e; cases e; exact notLL (Or.inl (by omega))) | (intro b hm; have := (hu.lt b (Option.mem_toList.1 hm)).1; omega) | (intro b o e; cases e; intro hm; have := (hu.lt _ (Option.mem_toList.1 hm)).1; omega))) (by kernel_rfl) rfl)) ?_
  refine WA_take 23 (by kernel_rfl) rfl (fun _ _ => rn_lenSl (e := 60) (sz := 1) (by kernel_rfl) rfl rfl) ?_
  refine WA_take 24 (by kernel_rfl) rfl (fun _ _ => rn_eql rfl rfl) ?_
  refine WA_take 25 (by kernel_rfl) rfl (fun _ _ => rn_pick_t rfl) ?_
  refine WA_take 26 (by kernel_rfl) rfl (fun _ _ => rn_move) ?_
  refine WA_tp 31 rfl ((by rw [hn])) ?_
  refine WA_take 27 (by kernel_rfl) rfl (fun _ _ => rn_move) ?_
  refine WA_take 29 (by kernel_rfl) rfl (fun _ _ => rn_move) ?_
  refine WA_one 28 (by kernel_rfl) ?_
  refine WO_ent rfl rfl (rn_call (by kernel_rfl) rfl) (room19 hG han hn4) ?_
  rintro _ w33 ⟨rfl, hb33⟩
  have hS902 := hS901.add0 hb33
  refine ⟨hS902, ?_⟩
  replace hG := hG.new hb33
  replace hy := hy.new hb33
  replace hB := hB.acc hb33
  refine WA_one 30 (by kernel_rfl) ?_
  refine WO_ent rfl rfl (rn_call (by kernel_rfl) rfl) (room21r hy han hn4) ?_
  rintro _ w35 ⟨rfl, hb35⟩
  have hS903 := hS902.add0 hb35
  refine ⟨hS903, ?_⟩
  replace hG := hG.new hb35
  replace hy := hy.new hb35
  replace hB := hB.acc hb35
  refine WA_take 31 (by kernel_rfl) rfl (fun _ _ => rn_eql rfl rfl) ?_
  refine WA_take 32 (by kernel_rfl) rfl (fun _ _ => rn_pick_t rfl) ?_
  refine WA_take 33 (by kernel_rfl) rfl (fun _ _ => rn_assign) ?_
  refine WA_done (by kernel_rfl) ?_
  refine thenN ?_
  refine W_ret ?_
  refine ret_ret [_] ⟨rfl, trivial⟩ ?_
  exact ⟨congrArg Value.bool (decide_eq_true rfl), hB⟩
set_option maxRecDepth 20000 in
theorem row55 (hw : WAt lo L w y c s n a S) (r : Rec) (hr : chsOk r) (hm : mayR r = true) (q : Option Addr) (cq : Nat) (hq : SlAt w q r.length 513 (chsV r)) (hc : c < 18446744073709551616) (hS : S.length ≤ 1000000) :
    Calls Tryz.prog 55 [.pointer (some ⟨y, 0, none⟩), .slice q r.length cq].toArray w (Ret fun v w' => (∃ qr cr, v = .slice qr (needN (516 * r.length)) cr ∧ ownsAt w' w.heap.size 45 128 (.slice qr (needN (516 * r.length)) cr) (needN (516 * r.length)) (bv (rowB c S.length (recB r)))) ∧ Below w.heap.size w w') := by
  have hB := Below.refl w.heap.size w
  obtain ⟨p, cp, L1, hy, _⟩ := hw.ex
  unfold rlC at hy
  have hr60 := of_decide_eq_true (Bool.and_eq_true_iff.1 hm).1
  have hnum : ∀ c ∈ r, numOk c.num = true := fun c hc => List.all_eq_true.1 (Bool.and_eq_true_iff.1 hm).2 c hc
  refine calls_W (fn := Tryz.f55) (rs := [.tmp 4]) (n := 18) Tryz.func55 rfl rfl Tryz.ntmps55 (by kernel_rfl) rfl ?_
  refine W_seq ?_
  refine W_region ?_
  refine WR_val rfl (rn_assign) ?_
  refine WR_nil ?_
  refine thenN ?_
  refine W_seq ?_
  refine W_draw' [] (by kernel_rfl) ?_
  intro w901 hb901 hS901
  replace hy := hy.new hb901
  replace hB := hB.acc hb901
  have hy_d901 := hy
  have hB_d901 := hB
  refine WA_take 0 (by kernel_rfl) rfl (fun _ _ => rn_move) ?_
  refine WA_take 1 (by kernel_rfl) rfl (fun _ _ => rn_nilCheckP rfl) ?_
  refine WA_take 2 (by kernel_rfl) rfl (fun _ _ => rn_fieldAddr (off := 0) (by kernel_rfl) rfl) ?_
  refine WA_take 3 (by kernel_rfl) rfl (fun w' hS' => rn_load rfl (Ld.row1 (hy_d901.kpd hS' (by first | (simp; done) | (simp; omega) | (simp [*]; done) | exact notLL (Or.inl (by omega)) | exact notLL (Or.inr (by simp)) | exact fun g hm => Nat.le_trans (by omega) (inLL hm).1 | (intro b o e; cases e; exact notLL (Or.inl (by omega))) | (intro b hm; have := (hu.lt b (Option.mem_toList.1 hm)).1; omega) | (intro b o e; cases e; intro hm; have := (hu.lt _ (Option.mem_toList.1 hm)).1; omega))) (by kernel_rfl) rfl)) ?_
  refine WA_take 4 (by kernel_rfl) rfl (fun _ _ => rn_move) ?_
  refine WA_take 5 (by kernel_rfl) rfl (fun _ _ => rn_nilCheckP rfl) ?_
  refine WA_take 6 (by kernel_rfl) rfl (fun _ _ => rn_fieldAddr (off := 3) (by kernel_rfl) rfl) ?_
  refine WA_take 7 (by kernel_rfl) rfl (fun w' hS' => rn_load rfl (Ld.row1 (hy_d901.kpd hS' (by first | (simp; done) | (simp; omega) | (simp [*]; done) | exact notLL (Or.inl (by omega)) | exact notLL (Or.inr (by simp)) | exact fun g hm => Nat.le_trans (by omega) (inLL hm).1 | (intro b o e; cases e; exact notLL (Or.inl (by omega))) | (intro b hm; have := (hu.lt b (Option.mem_toList.1 hm)).1; omega) | (intro b o e; cases e; intro hm; have := (hu.lt _ (Option.mem_toList.1 hm)).1; omega))) (by kernel_rfl) rfl)) ?_
  refine WA_take 8 (by kernel_rfl) rfl (fun _ _ => rn_lenSl (e := 60) (sz := 1) (by kernel_rfl) rfl rfl) ?_
  refine WA_take 9 (by kernel_rfl) rfl (fun _ _ => rn_pair (k0 := .u64) (k1 := .i64) (by kernel_rfl) (by kernel_rfl) rfl rfl) ?_
  refine WA_take 10 (by kernel_rfl) rfl (fun _ _ => rn_move) ?_
  refine WA_one 11 (by kernel_rfl) ?_
  refine WO_ent rfl rfl (rn_call (by kernel_rfl) rfl) (bytes14 r hr hnum q r.length cq w901 (hq.below hB (Nat.le_refl _)) rfl (by omega)) ?_
  rintro _ w16 ⟨hu, hb16⟩
  have hS902 := hS901.add0 hb16
  refine ⟨hS902, ?_⟩
  replace hy := hy.new hb16
  replace hB := hB.acc hb16
  have hs := hu.form
  obtain ⟨pu, cu, rfl⟩ := hs
  have hbz := hB.size
  refine WA_one 12 (by kernel_rfl) ?_
  refine WO_ent rfl rfl (rn_call (by kernel_rfl) rfl) (row15f c S.length (recB r) pu (516 * r.length) cu w16 hu.sl (by omega) hc (by omega)) ?_
  rintro _ w17 ⟨⟨qr, cr, rfl, hqr⟩, hb17⟩
  have hS903 := hS902.add0 hb17
  refine ⟨hS903, ?_⟩
  replace hy := hy.new hb17
  replace hu := hu.new hb17
  replace hB := hB.acc hb17
  refine WA_take 13 (by kernel_rfl) rfl (fun _ _ => rn_assign) ?_
  refine WA_done (by kernel_rfl) ?_
  refine thenN ?_
  refine W_ret ?_
  refine ret_ret [_] ⟨rfl, trivial⟩ ?_
  exact ⟨⟨qr, cr, rfl, hqr.mono hbz⟩, hB⟩
end
end Go.Proofs.YtkkgahgpemepeaaGreat
namespace Go.Proofs.YtkkgahgpemepeaaGreat
open Go Go.RowKit Coup
theorem put_good (R : List Sec) {D : Dk} (a : Nat) (hd : D.dead = false) (hl : a + R.length ≤ D.V.length) :
    ((putW D a R).2 = true ∧ (putW D a R).1.dead = false ∧ shortD (putW D a R).1 1 ∧ ∀ j, j < D.V.length → readD (putW D a R).1 j = if a ≤ j ∧ j < a + R.length then R.getD (j - a) zeroS else readD D j) ∨
    ((putW D a R).2 = false ∧ (putW D a R).1.dead = true ∧ ∀ j, ver (putW D a R).1 j = ver D j ∨ (a ≤ j ∧ j < a + R.length ∧ ver (putW D a R).1 j = ver D j ++ [R.getD (j - a) zeroS])) := by
  rcases writes_cases R D a hd hl with ⟨e1, e2, e3⟩ | ⟨e1, e2, e3⟩
  · rw [putW, if_pos e1]
    cases hs : stepOk (writesW D a R).1 with
    | true =>
      obtain ⟨f1, f2, f3⟩ := flush_yes hs
      refine .inl ⟨rfl, f1, f2, fun j hj => ?_⟩
      rw [f3 j (by rw [writesW_len]; exact hj), readD, e3 j]
      by_cases c : a ≤ j ∧ j < a + R.length
      · rw [if_pos c, if_pos c]; simp [lastS]
      · rw [if_neg c, if_neg c]; rfl
    | false =>
      obtain ⟨f1, f2⟩ := flush_no hs
      refine .inr ⟨rfl, f1, fun j => ?_⟩
      rw [f2 j, e3 j]
      by_cases c : a ≤ j ∧ j < a + R.length
      · rw [if_pos c]; exact .inr ⟨c.1, c.2, rfl⟩
      · rw [if_neg c]; exact .inl rfl
  · rw [putW, if_neg (by rw [e1]; simp)]
    exact .inr ⟨e1, e2, e3⟩
def putL (W : List Sec) (b : Nat) (R : List Sec) (i : Nat) : List Sec := (List.range i).foldl (fun W j => W.set (b + j) (R.getD j zeroS)) W
theorem putL_succ (W : List Sec) (b : Nat) (R : List Sec) (i : Nat) : putL W b R (i + 1) = (putL W b R i).set (b + i) (R.getD i zeroS) := by simp [putL, List.range_succ]
theorem putL_len (W : List Sec) (b : Nat) (R : List Sec) : ∀ i, (putL W b R i).length = W.length
  | 0 => rfl
  | i + 1 => by rw [putL_succ, List.length_set, putL_len W b R i]
theorem putL_ok {W R : List Sec} (hW : secsOk W) (hR : secsOk R) (b : Nat) : ∀ i, secsOk (putL W b R i)
  | 0 => hW
  | i + 1 => by rw [putL_succ]; exact (putL_ok hW hR b i).set (getD_ok hR i)
theorem putL_get (W : List Sec) (b : Nat) (R : List Sec) : ∀ (i j : Nat), j < W.length → (putL W b R i)[j]? = if b ≤ j ∧ j < b + i then some (R.getD (j - b) zeroS) else W[j]?
  | 0, j, hj => by rw [if_neg (by omega)]; rfl
  | i + 1, j, hj => by
    rw [putL_succ, List.getElem?_set, putL_get W b R i j hj]
    by_cases e : b + i = j
    · rw [if_pos e, if_pos (by rw [putL_len]; omega), if_pos (by omega), show j - b = i by omega]
    · rw [if_neg e]
      by_cases c : b ≤ j ∧ j < b + i
      · rw [if_pos c, if_pos (by omega)]
      · rw [if_neg c, if_neg (by omega)]
theorem putL_sec {D D' : Dk} {m b : Nat} {R : List Sec} (h : ∀ j, j < m → readD D' j = if b ≤ j ∧ j < b + R.length then R.getD (j - b) zeroS else readD D j) : putL (secD D m) b R R.length = secD D' m := by
  refine List.ext_getElem? fun j => ?_
  by_cases hj : j < m
  · rw [putL_get _ _ _ _ _ (by rw [secD_len]; exact hj), secD_get D' hj, h j hj, secD_get D hj]
    split <;> rfl
  · rw [List.getElem?_eq_none (by rw [putL_len, secD_len]; omega), List.getElem?_eq_none (by rw [secD_len]; omega)]
structure ComOut (g x lo : Nat) (D' : Dk) (G' : Lg) (y c s n a' : Nat) (S' : List Rec) (L Lw Lr Lk : List Nat) (w : World) (v : Value) (w' : World) : Prop where
  v : v = .bool true
  ex : ∃ L' Lw', LgAt g x None lo L' D' G' w' ∧ WAt lo Lw' w' y c s n a' S' ∧ (∀ b ∈ L, b ∈ L') ∧ ∀ b ∈ Lw', b ∈ L' ∧ (b ∈ Lw ∨ b ∈ Lr ∨ w.heap.size ≤ b)
  ll : LoL lo Lk w w'
section
variable {g x lo : Nat} {L Lw Lr Lk : List Nat} {D : Dk} {G : Lg} {w : World} {y c s n a : Nat} {S : List Rec} {r : Rec} {q : Option Addr} {cq : Nat}
set_option maxRecDepth 20000 in
theorem com_dead (hG : LgAt g x None lo L D G w) (hd : G.dead = true) (hLk : ∀ b ∈ Lk, b ∈ L) (hyk : y ∉ Lk) (hw : WAt lo Lw w y c s n a S) (hLw : ∀ b ∈ Lw, b ∈ L) (hrL : RecL lo Lr w q r) (hLr : ∀ b ∈ Lr, b ∈ L) (hV1 : 1 ≤ D.V.length) (hV : D.V.length ≤ 8192) :
    Calls Tryz.prog 27 [.pointer (some ⟨g, 0, none⟩), .pointer (some ⟨x, 0, none⟩), .pointer (some ⟨y, 0, none⟩), .slice q r.length cq].toArray w (Ret fun v w' => ComOut g x lo D G y c s n a S L Lw Lr Lk w v w') := by
  have hLL := LoL.refl lo Lk w
  have hml : maxLen = 9223372036854775807 := by decide
  have hDk := (tOk hG.two).1
  obtain ⟨m, hm⟩ : ∃ m, D.V.length = m := ⟨_, rfl⟩
  refine calls_W (fn := Tryz.f27) (rs := [.tmp 8]) (n := 149) Tryz.func27 rfl rfl Tryz.ntmps27 (by kernel_rfl) rfl ?_
  refine W_seq ?_
  refine W_region ?_
  refine WR_val rfl (rn_assign) ?_
  refine WR_nil ?_
  refine thenN ?_
  refine W_seq ?_
  refine W_region ?_
  refine WR_val rfl (rn_move) ?_
  refine WR_val rfl (rn_move) ?_
  refine WR_ent rfl (rn_call (by kernel_rfl) rfl) (tSectors hG.fst) ?_
  rintro _ _ ⟨rfl, rfl⟩
  refine WR_ent rfl (rn_call (by kernel_rfl) rfl) (sectors31 hG.fst D.V.length (by omega) (by omega)) ?_
  rintro _ w17 ⟨hu, hb17⟩
  obtain ⟨ga, oa, ca, rfl, hga1, hga2, hca⟩ := hu.form' (by omega)
  replace hG := hG.newc hb17 hga1 hga2
  replace hw := hw.new hb17
  replace hrL := hrL.new hb17
  have hown : OwnG _ 0 45 128 ga oa D.V.length ca _ := hu.mono (Nat.zero_le _)
  replace hLL := hLL.new hb17
  refine WR_val rfl (rn_assign) ?_
  refine WR_nil ?_
  refine thenN ?_
  refine W_seq ?_
  refine W_region ?_
  refine WR_val rfl (rn_move) ?_
  refine WR_ent rfl (rn_call (by kernel_rfl) rfl) (dead23 hG) ?_
  rintro _ _ ⟨rfl, rfl⟩
  refine WR_val rfl (rn_assign) ?_
  refine WR_nil ?_
  refine thenN ?_
  refine W_seq ?_
  refine W_region ?_
  refine WR_val rfl (rn_move) ?_
  refine WR_val rfl (rn_move) ?_
  have hcd := commit_dead hG hd r q r.length cq
  rw [commitR, hd, if_pos rfl] at hcd
  dsimp only at hcd
  refine WR_ent rfl (rn_call (by kernel_rfl) rfl) (hcd) ?_
  rintro _ w22 ⟨rfl, hG, hb22⟩
  replace hLL := hLL.ll hb22 (fun b hb => List.mem_cons_of_mem _ (hLk b hb))
  replace hw := hw.ll hb22 (fun b hb => List.mem_cons_of_mem _ (hLw b hb))
  replace hrL := hrL.ll hb22 (fun b hb => List.mem_cons_of_mem _ (hLr b hb))
  replace hown := hown.kpd hb22.kp (by first | (refine notLL ?_; left; omega) | (refine notLL ?_; right; simp; done) | (intro b o e; cases e; first | (refine notLL ?_; left; omega) | (refine notLL ?_; right; simp; done) | (refine notLL ?_; right; simp [*]; done)) | (intro b hb; refine notLL ?_; left; omega) | (intro b hb e; cases e; exact notLL (by right; simp [*]) hb))
  refine WR_val rfl (rn_assign) ?_
  refine WR_nil ?_
  refine thenN ?_
  refine W_seq ?_
  refine W_block ?_
  refine W_seq ?_
  refine W_region ?_
  refine WR_val rfl (rn_move) ?_
  refine WR_val rfl (rn_assign) ?_
  refine WR_nil ?_
  refine thenN ?_
  refine W_tb rfl (hd) ?_
  refine W_seq ?_
  refine W_region ?_
  refine WR_val rfl (rn_move) ?_
  refine WR_val rfl (rn_eql rfl rfl) ?_
  refine WR_val rfl (rn_move) ?_
  refine WR_tp 27 rfl (rfl) ?_
  refine WR_yes rfl ?_
  refine WR_val rfl (rn_move) ?_
  refine WR_yes rfl ?_
  refine WR_val rfl (rn_move) ?_
  refine WR_yes rfl ?_
  refine WR_ent rfl (rn_call (by kernel_rfl) rfl) (tSectors hG.fst) ?_
  rintro _ _ ⟨rfl, rfl⟩
  refine WR_yes rfl ?_
  refine WR_ent rfl (rn_call (by kernel_rfl) rfl) (sectors31 hG.fst D.V.length (by omega) (by omega)) ?_
  rintro _ w31 ⟨hu2, hb31⟩
  replace hG := hG.new hb31
  replace hown := hown.new hb31
  replace hLL := hLL.new hb31
  replace hw := hw.new hb31
  replace hrL := hrL.new hb31
  refine WR_yes rfl ?_
  refine WR_val rfl (rn_move) ?_
  refine WR_yes rfl ?_
  have hs2 := hu2.form
  obtain ⟨pu2, cu2, rfl⟩ := hs2
  have hown2 := ownsAt.sl hown
  refine WR_ent rfl (rn_call (by kernel_rfl) rfl) (same33 (secD D D.V.length) (secD D D.V.length) (secD_ok hDk (Nat.le_refl _)) (secD_ok hDk (Nat.le_refl _)) pu2 _ D.V.length D.V.length cu2 ca w31 hu2.sl hown2 (secD_len _ _) (secD_len _ _) (by omega)) ?_
  rintro _ w33 ⟨⟨bb, rfl, hbb⟩, hb33⟩
  replace hG := hG.new hb33
  replace hown := hown.new hb33
  replace hLL := hLL.new hb33
  replace hw := hw.new hb33
  replace hrL := hrL.new hb33
  replace hu2 := hu2.new hb33
  refine WR_val rfl (rn_pick_t rfl) ?_
  refine WR_val rfl (rn_assign) ?_
  refine WR_nil ?_
  refine thenN ?_
  refine W_ret ?_
  refine blockR ?_
  refine thenR ?_
  refine ret_ret [_] ⟨rfl, trivial⟩ ?_
  exact ⟨congrArg Value.bool (hbb.2 rfl), ⟨ga :: L, Lw, hG, hw, fun b hb => List.mem_cons_of_mem _ hb, fun b hb => ⟨List.mem_cons_of_mem _ (hLw b hb), .inl hb⟩⟩, hLL⟩
set_option maxRecDepth 20000 in
set_option maxHeartbeats 1000000 in
theorem com_no2 (hG : LgAt g x None lo L D G w) (hLk : ∀ b ∈ Lk, b ∈ L) (hyk : y ∉ Lk) (hw : WAt lo Lw w y c s n a S) (hLw : ∀ b ∈ Lw, b ∈ L) (hrL : RecL lo Lr w q r) (hLr : ∀ b ∈ Lr, b ∈ L) (hV1 : 1 ≤ D.V.length) (hV : D.V.length ≤ 8192) (hok : LgOk D G) (hsh : shortD D 80000) (hr : chsOk r) (hr2 : r.length ≤ 1000000) (hd : G.dead = false) (hm : mayR r = false) (hc : G.count = c) (hs : G.since = s) (hn : G.num = S.length) (hz : G.size = n) (ha : G.at_ = a) (han : a ≤ n) (hn4 : n ≤ 4000) :
    Calls Tryz.prog 27 [.pointer (some ⟨g, 0, none⟩), .pointer (some ⟨x, 0, none⟩), .pointer (some ⟨y, 0, none⟩), .slice q r.length cq].toArray w (Ret fun v w' => ComOut g x lo D G y c s n a S L Lw Lr Lk w v w') := by
  have hLL := LoL.refl lo Lk w
  have hml : maxLen = 9223372036854775807 := by decide
  have hDk := (tOk hG.two).1
  refine calls_W (fn := Tryz.f27) (rs := [.tmp 8]) (n := 149) Tryz.func27 rfl rfl Tryz.ntmps27 (by kernel_rfl) rfl ?_
  refine W_seq ?_
  refine W_region ?_
  refine WR_val rfl (rn_assign) ?_
  refine WR_nil ?_
  refine thenN ?_
  refine W_seq ?_
  refine W_region ?_
  refine WR_val rfl (rn_move) ?_
  refine WR_val rfl (rn_move) ?_
  refine WR_ent rfl (rn_call (by kernel_rfl) rfl) (tSectors hG.fst) ?_
  rintro _ _ ⟨rfl, rfl⟩
  refine WR_ent rfl (rn_call (by kernel_rfl) rfl) (sectors31 hG.fst D.V.length (by omega) (by omega)) ?_
  rintro _ w17 ⟨hu, hb17⟩
  obtain ⟨ga, oa, ca, rfl, hga1, hga2, hca⟩ := hu.form' (by omega)
  replace hG := hG.newc hb17 hga1 hga2
  replace hw := hw.new hb17
  replace hrL := hrL.new hb17
  have hown : OwnG _ 0 45 128 ga oa D.V.length ca _ := hu.mono (Nat.zero_le _)
  replace hLL := hLL.new hb17
  refine WR_val rfl (rn_assign) ?_
  refine WR_nil ?_
  refine thenN ?_
  refine W_seq ?_
  refine W_region ?_
  refine WR_val rfl (rn_move) ?_
  refine WR_ent rfl (rn_call (by kernel_rfl) rfl) (dead23 hG) ?_
  rintro _ _ ⟨rfl, rfl⟩
  refine WR_val rfl (rn_assign) ?_
  refine WR_nil ?_
  refine thenN ?_
  refine W_seq ?_
  refine W_region ?_
  refine WR_val rfl (rn_move) ?_
  refine WR_val rfl (rn_move) ?_
  have hcd := commit17 hG hok hsh r hr q r.length cq hrL.at_ rfl hr2
  rw [commitR, hd, if_neg (by simp), if_pos hm] at hcd
  dsimp only at hcd
  refine WR_ent rfl (rn_call (by kernel_rfl) rfl) (hcd) ?_
  rintro _ w22 ⟨rfl, hG, hb22⟩
  replace hLL := hLL.ll hb22 (fun b hb => List.mem_cons_of_mem _ (hLk b hb))
  replace hw := hw.ll hb22 (fun b hb => List.mem_cons_of_mem _ (hLw b hb))
  replace hrL := hrL.ll hb22 (fun b hb => List.mem_cons_of_mem _ (hLr b hb))
  replace hown := hown.kpd hb22.kp (by first | (refine notLL ?_; left; omega) | (refine notLL ?_; right; simp; done) | (intro b o e; cases e; first | (refine notLL ?_; left; omega) | (refine notLL ?_; right; simp; done) | (refine notLL ?_; right; simp [*]; done)) | (intro b hb; refine notLL ?_; left; omega) | (intro b hb e; cases e; exact notLL (by right; simp [*]) hb))
  refine WR_val rfl (rn_assign) ?_
  refine WR_nil ?_
  refine thenN ?_
  refine W_seq ?_
  refine W_block ?_
  refine W_seq ?_
  refine W_region ?_
  refine WR_val rfl (rn_move) ?_
  refine WR_val rfl (rn_assign) ?_
  refine WR_nil ?_
  refine thenN ?_
  refine W_fb rfl (hd) ?_
  refine W_seq ?_
  refine W_region ?_
  refine WR_val rfl (rn_move) ?_
  refine WR_ent rfl (rn_call (by kernel_rfl) rfl) (may12 r hr q r.length cq w22 hrL.at_ rfl (by omega)) ?_
  rintro _ _ ⟨rfl, rfl⟩
  refine WR_val rfl (rn_not rfl) ?_
  refine WR_val rfl (rn_assign) ?_
  refine WR_nil ?_
  refine thenN ?_
  refine W_tnb rfl (hm) ?_
  refine W_seq ?_
  refine W_region ?_
  refine WR_val rfl (rn_move) ?_
  refine WR_val rfl (rn_eql rfl rfl) ?_
  refine WR_val rfl (rn_move) ?_
  refine WR_tp 41 rfl (rfl) ?_
  refine WR_yes rfl ?_
  refine WR_val rfl (rn_move) ?_
  refine WR_yes rfl ?_
  refine WR_val rfl (rn_move) ?_
  refine WR_yes rfl ?_
  refine WR_ent rfl (rn_call (by kernel_rfl) rfl) (looks26 hG (hw.weak fun b hb ↦ List.mem_cons_of_mem _ (hLw b hb)) hc hs hn hz ha han hn4) ?_
  rintro _ w44 ⟨rfl, hb44⟩
  replace hG := hG.new hb44
  replace hown := hown.new hb44
  replace hLL := hLL.new hb44
  replace hw := hw.new hb44
  replace hrL := hrL.new hb44
  refine WR_val rfl (rn_pick_t rfl) ?_
  refine WR_val rfl (rn_move) ?_
  refine WR_tb 46 rfl (rfl) ?_
  refine WR_yes rfl ?_
  refine WR_val rfl (rn_move) ?_
  refine WR_yes rfl ?_
  refine WR_val rfl (rn_move) ?_
  refine WR_yes rfl ?_
  refine WR_ent rfl (rn_call (by kernel_rfl) rfl) (tSectors hG.fst) ?_
  rintro _ _ ⟨rfl, rfl⟩
  refine WR_yes rfl ?_
  refine WR_ent rfl (rn_call (by kernel_rfl) rfl) (sectors31 hG.fst D.V.length (by omega) (by omega)) ?_
  rintro _ w50 ⟨hu2, hb50⟩
  replace hG := hG.new hb50
  replace hown := hown.new hb50
  replace hLL := hLL.new hb50
  replace hw := hw.new hb50
  replace hrL := hrL.new hb50
  refine WR_yes rfl ?_
  refine WR_val rfl (rn_move) ?_
  refine WR_yes rfl ?_
  have hs2 := hu2.form
  obtain ⟨pu2, cu2, rfl⟩ := hs2
  have hown2 := ownsAt.sl hown
  refine WR_ent rfl (rn_call (by kernel_rfl) rfl) (same33 (secD D D.V.length) (secD D D.V.length) (secD_ok hDk (Nat.le_refl _)) (secD_ok hDk (Nat.le_refl _)) pu2 _ D.V.length D.V.length cu2 ca w50 hu2.sl hown2 (secD_len _ _) (secD_len _ _) (by omega)) ?_
  rintro _ w52 ⟨⟨bb, rfl, hbb⟩, hb52⟩
  replace hG := hG.new hb52
  replace hown := hown.new hb52
  replace hLL := hLL.new hb52
  replace hw := hw.new hb52
  replace hrL := hrL.new hb52
  replace hu2 := hu2.new hb52
  refine WR_val rfl (rn_pick_t rfl) ?_
  refine WR_val rfl (rn_assign) ?_
  refine WR_nil ?_
  refine thenN ?_
  refine W_ret ?_
  refine blockR ?_
  refine thenR ?_
  refine ret_ret [_] ⟨rfl, trivial⟩ ?_
  exact ⟨congrArg Value.bool (hbb.2 rfl), ⟨ga :: L, Lw, hG, hw, fun b hb => List.mem_cons_of_mem _ hb, fun b hb => ⟨List.mem_cons_of_mem _ (hLw b hb), .inl hb⟩⟩, hLL⟩
set_option maxRecDepth 20000 in
set_option maxHeartbeats 1000000 in
theorem com_no8 (hG : LgAt g x None lo L D G w) (hLk : ∀ b ∈ Lk, b ∈ L) (hyk : y ∉ Lk) (hw : WAt lo Lw w y c s n a S) (hLw : ∀ b ∈ Lw, b ∈ L) (hrL : RecL lo Lr w q r) (hLr : ∀ b ∈ Lr, b ∈ L) (hV1 : 1 ≤ D.V.length) (hV : D.V.length ≤ 8192) (hok : LgOk D G) (hsh : shortD D 80000) (hr : chsOk r) (hr2 : r.length ≤ 1000000) (hd : G.dead = false) (hm : mayR r = true) (hfit : n < a + needN (516 * r.length)) (hc : G.count = c) (hs : G.since = s) (hn : G.num = S.length) (hz : G.size = n) (ha : G.at_ = a) (han : a ≤ n) (hn4 : n ≤ 4000) :
    Calls Tryz.prog 27 [.pointer (some ⟨g, 0, none⟩), .pointer (some ⟨x, 0, none⟩), .pointer (some ⟨y, 0, none⟩), .slice q r.length cq].toArray w (Ret fun v w' => ComOut g x lo D G y c s n a S L Lw Lr Lk w v w') := by
  have hr60 := of_decide_eq_true (Bool.and_eq_true_iff.1 hm).1
  have hnw := (needW_pos hr60).1
  have hLL := LoL.refl lo Lk w
  have hml : maxLen = 9223372036854775807 := by decide
  have hDk := (tOk hG.two).1
  refine calls_W (fn := Tryz.f27) (rs := [.tmp 8]) (n := 149) Tryz.func27 rfl rfl Tryz.ntmps27 (by kernel_rfl) rfl ?_
  refine W_seq ?_
  refine W_region ?_
  refine WR_val rfl (rn_assign) ?_
  refine WR_nil ?_
  refine thenN ?_
  refine W_seq ?_
  refine W_region ?_
  refine WR_val rfl (rn_move) ?_
  refine WR_val rfl (rn_move) ?_
  refine WR_ent rfl (rn_call (by kernel_rfl) rfl) (tSectors hG.fst) ?_
  rintro _ _ ⟨rfl, rfl⟩
  refine WR_ent rfl (rn_call (by kernel_rfl) rfl) (sectors31 hG.fst D.V.length (by omega) (by omega)) ?_
  rintro _ w17 ⟨hu, hb17⟩
  obtain ⟨ga, oa, ca, rfl, hga1, hga2, hca⟩ := hu.form' (by omega)
  replace hG := hG.newc hb17 hga1 hga2
  replace hw := hw.new hb17
  replace hrL := hrL.new hb17
  have hown : OwnG _ 0 45 128 ga oa D.V.length ca _ := hu.mono (Nat.zero_le _)
  replace hLL := hLL.new hb17
  refine WR_val rfl (rn_assign) ?_
  refine WR_nil ?_
  refine thenN ?_
  refine W_seq ?_
  refine W_region ?_
  refine WR_val rfl (rn_move) ?_
  refine WR_ent rfl (rn_call (by kernel_rfl) rfl) (dead23 hG) ?_
  rintro _ _ ⟨rfl, rfl⟩
  refine WR_val rfl (rn_assign) ?_
  refine WR_nil ?_
  refine thenN ?_
  refine W_seq ?_
  refine W_region ?_
  refine WR_val rfl (rn_move) ?_
  refine WR_val rfl (rn_move) ?_
  have hcd := commit17 hG hok hsh r hr q r.length cq hrL.at_ rfl hr2
  rw [commitR, hd, if_neg (by simp), if_neg (by rw [hm]; simp), if_pos (by rw [rowW_len, hz, ha]; exact hfit)] at hcd
  dsimp only at hcd
  refine WR_ent rfl (rn_call (by kernel_rfl) rfl) (hcd) ?_
  rintro _ w22 ⟨rfl, hG, hb22⟩
  replace hLL := hLL.ll hb22 (fun b hb => List.mem_cons_of_mem _ (hLk b hb))
  replace hw := hw.ll hb22 (fun b hb => List.mem_cons_of_mem _ (hLw b hb))
  replace hrL := hrL.ll hb22 (fun b hb => List.mem_cons_of_mem _ (hLr b hb))
  replace hown := hown.kpd hb22.kp (by first | (refine notLL ?_; left; omega) | (refine notLL ?_; right; simp; done) | (intro b o e; cases e; first | (refine notLL ?_; left; omega) | (refine notLL ?_; right; simp; done) | (refine notLL ?_; right; simp [*]; done)) | (intro b hb; refine notLL ?_; left; omega) | (intro b hb e; cases e; exact notLL (by right; simp [*]) hb))
  refine WR_val rfl (rn_assign) ?_
  refine WR_nil ?_
  refine thenN ?_
  refine W_seq ?_
  refine W_block ?_
  refine W_seq ?_
  refine W_region ?_
  refine WR_val rfl (rn_move) ?_
  refine WR_val rfl (rn_assign) ?_
  refine WR_nil ?_
  refine thenN ?_
  refine W_fb rfl (hd) ?_
  refine W_seq ?_
  refine W_region ?_
  refine WR_val rfl (rn_move) ?_
  refine WR_ent rfl (rn_call (by kernel_rfl) rfl) (may12 r hr q r.length cq w22 hrL.at_ rfl (by omega)) ?_
  rintro _ _ ⟨rfl, rfl⟩
  refine WR_val rfl (rn_not rfl) ?_
  refine WR_val rfl (rn_assign) ?_
  refine WR_nil ?_
  refine thenN ?_
  refine W_fnb rfl (hm) ?_
  refine W_seq ?_
  refine W_region ?_
  refine WR_val rfl (rn_move) ?_
  refine WR_val rfl (rn_lenSl (e := 112) (sz := 513) (by kernel_rfl) rfl rfl) ?_
  refine WR_ent rfl (rn_call (by kernel_rfl) rfl) (rneed11 (r.length : Int) w22) ?_
  rintro _ _ ⟨rfl, rfl⟩
  refine WR_val rfl (rn_move) ?_
  obtain ⟨pw, cw, L1, hyr, _⟩ := hw.ex
  unfold rlC at hyr
  refine WR_ent rfl (rn_call (by kernel_rfl) rfl) (room21r hyr han hn4) ?_
  rintro _ w59 ⟨rfl, hb59⟩
  replace hG := hG.new hb59
  replace hown := hown.new hb59
  replace hLL := hLL.new hb59
  replace hw := hw.new hb59
  replace hrL := hrL.new hb59
  refine WR_val rfl (rn_gtr rfl rfl) ?_
  refine WR_val rfl (rn_assign) ?_
  refine WR_nil ?_
  refine thenN ?_
  refine W_tp rfl ((by rw [hnw]; omega)) ?_
  refine W_seq ?_
  refine W_region ?_
  refine WR_val rfl (rn_move) ?_
  refine WR_val rfl (rn_eql rfl rfl) ?_
  refine WR_val rfl (rn_move) ?_
  refine WR_tp 63 rfl (rfl) ?_
  refine WR_yes rfl ?_
  refine WR_val rfl (rn_move) ?_
  refine WR_yes rfl ?_
  refine WR_val rfl (rn_move) ?_
  refine WR_yes rfl ?_
  refine WR_ent rfl (rn_call (by kernel_rfl) rfl) (looks26 hG (hw.weak fun b hb ↦ List.mem_cons_of_mem _ (hLw b hb)) hc hs hn hz ha han hn4) ?_
  rintro _ w66 ⟨rfl, hb66⟩
  replace hG := hG.new hb66
  replace hown := hown.new hb66
  replace hLL := hLL.new hb66
  replace hw := hw.new hb66
  replace hrL := hrL.new hb66
  refine WR_val rfl (rn_pick_t rfl) ?_
  refine WR_val rfl (rn_move) ?_
  refine WR_tb 68 rfl (rfl) ?_
  refine WR_yes rfl ?_
  refine WR_val rfl (rn_move) ?_
  refine WR_yes rfl ?_
  refine WR_val rfl (rn_move) ?_
  refine WR_yes rfl ?_
  refine WR_ent rfl (rn_call (by kernel_rfl) rfl) (tSectors hG.fst) ?_
  rintro _ _ ⟨rfl, rfl⟩
  refine WR_yes rfl ?_
  refine WR_ent rfl (rn_call (by kernel_rfl) rfl) (sectors31 hG.fst D.V.length (by omega) (by omega)) ?_
  rintro _ w72 ⟨hu2, hb72⟩
  replace hG := hG.new hb72
  replace hown := hown.new hb72
  replace hLL := hLL.new hb72
  replace hw := hw.new hb72
  replace hrL := hrL.new hb72
  refine WR_yes rfl ?_
  refine WR_val rfl (rn_move) ?_
  refine WR_yes rfl ?_
  have hs2 := hu2.form
  obtain ⟨pu2, cu2, rfl⟩ := hs2
  have hown2 := ownsAt.sl hown
  refine WR_ent rfl (rn_call (by kernel_rfl) rfl) (same33 (secD D D.V.length) (secD D D.V.length) (secD_ok hDk (Nat.le_refl _)) (secD_ok hDk (Nat.le_refl _)) pu2 _ D.V.length D.V.length cu2 ca w72 hu2.sl hown2 (secD_len _ _) (secD_len _ _) (by omega)) ?_
  rintro _ w74 ⟨⟨bb, rfl, hbb⟩, hb74⟩
  replace hG := hG.new hb74
  replace hown := hown.new hb74
  replace hLL := hLL.new hb74
  replace hw := hw.new hb74
  replace hrL := hrL.new hb74
  replace hu2 := hu2.new hb74
  refine WR_val rfl (rn_pick_t rfl) ?_
  refine WR_val rfl (rn_assign) ?_
  refine WR_nil ?_
  refine thenN ?_
  refine W_ret ?_
  refine blockR ?_
  refine thenR ?_
  refine ret_ret [_] ⟨rfl, trivial⟩ ?_
  exact ⟨congrArg Value.bool (hbb.2 rfl), ⟨ga :: L, Lw, hG, hw, fun b hb => List.mem_cons_of_mem _ hb, fun b hb => ⟨List.mem_cons_of_mem _ (hLw b hb), .inl hb⟩⟩, hLL⟩
set_option maxRecDepth 20000 in
set_option maxHeartbeats 1000000 in
theorem com_bad (hG : LgAt g x None lo L D G w) (hLk : ∀ b ∈ Lk, b ∈ L) (hyk : y ∉ Lk) (hw : WAt lo Lw w y c s n a S) (hLw : ∀ b ∈ Lw, b ∈ L) (hrL : RecL lo Lr w q r) (hLr : ∀ b ∈ Lr, b ∈ L) (hV1 : 1 ≤ D.V.length) (hV : D.V.length ≤ 8192) (hok : LgOk D G) (hsh : shortD D 80000) (hr : chsOk r) (hr2 : r.length ≤ 1000000) (hd : G.dead = false) (hm : mayR r = true) (hfit : ¬ n < a + needN (516 * r.length)) (hz : G.size = n) (ha : G.at_ = a) (han : a ≤ n) (hn4 : n ≤ 4000)
    (hp : (putW D (1 + G.at_) (rowW G r)).2 = false) (hdd : (putW D (1 + G.at_) (rowW G r)).1.dead = true) :
    Calls Tryz.prog 27 [.pointer (some ⟨g, 0, none⟩), .pointer (some ⟨x, 0, none⟩), .pointer (some ⟨y, 0, none⟩), .slice q r.length cq].toArray w (Ret fun v w' => ComOut g x lo (putW D (1 + G.at_) (rowW G r)).1 { G with dead := true } y c s n a S L Lw Lr Lk w v w') := by
  have hr60 := of_decide_eq_true (Bool.and_eq_true_iff.1 hm).1
  have hnw := (needW_pos hr60).1
  have hcm : commitR D G r = (10, (putW D (1 + G.at_) (rowW G r)).1, { G with dead := true }) := by
    rw [commitR, hd, if_neg (by simp), if_neg (by rw [hm]; simp), if_neg (by rw [rowW_len, hz, ha]; exact hfit), hp, if_neg (by simp)]
  obtain ⟨D2, hD2⟩ : ∃ D2, (putW D (1 + G.at_) (rowW G r)).1 = D2 := ⟨_, rfl⟩
  rw [hD2] at hcm hdd ⊢
  have hLL := LoL.refl lo Lk w
  have hml : maxLen = 9223372036854775807 := by decide
  have hDk := (tOk hG.two).1
  refine calls_W (fn := Tryz.f27) (rs := [.tmp 8]) (n := 149) Tryz.func27 rfl rfl Tryz.ntmps27 (by kernel_rfl) rfl ?_
  refine W_seq ?_
  refine W_region ?_
  refine WR_val rfl (rn_assign) ?_
  refine WR_nil ?_
  refine thenN ?_
  refine W_seq ?_
  refine W_region ?_
  refine WR_val rfl (rn_move) ?_
  refine WR_val rfl (rn_move) ?_
  refine WR_ent rfl (rn_call (by kernel_rfl) rfl) (tSectors hG.fst) ?_
  rintro _ _ ⟨rfl, rfl⟩
  refine WR_ent rfl (rn_call (by kernel_rfl) rfl) (sectors31 hG.fst D.V.length (by omega) (by omega)) ?_
  rintro _ w17 ⟨hu, hb17⟩
  obtain ⟨ga, oa, ca, rfl, hga1, hga2, hca⟩ := hu.form' (by omega)
  replace hG := hG.newc hb17 hga1 hga2
  replace hw := hw.new hb17
  replace hrL := hrL.new hb17
  have hown : OwnG _ 0 45 128 ga oa D.V.length ca _ := hu.mono (Nat.zero_le _)
  replace hLL := hLL.new hb17
  refine WR_val rfl (rn_assign) ?_
  refine WR_nil ?_
  refine thenN ?_
  refine W_seq ?_
  refine W_region ?_
  refine WR_val rfl (rn_move) ?_
  refine WR_ent rfl (rn_call (by kernel_rfl) rfl) (dead23 hG) ?_
  rintro _ _ ⟨rfl, rfl⟩
  refine WR_val rfl (rn_assign) ?_
  refine WR_nil ?_
  refine thenN ?_
  refine W_seq ?_
  refine W_region ?_
  refine WR_val rfl (rn_move) ?_
  refine WR_val rfl (rn_move) ?_
  have hcd := commit17 hG hok hsh r hr q r.length cq hrL.at_ rfl hr2
  rw [hcm] at hcd
  dsimp only at hcd
  refine WR_ent rfl (rn_call (by kernel_rfl) rfl) (hcd) ?_
  rintro _ w22 ⟨rfl, hG, hb22⟩
  replace hLL := hLL.ll hb22 (fun b hb => List.mem_cons_of_mem _ (hLk b hb))
  replace hw := hw.ll hb22 (fun b hb => List.mem_cons_of_mem _ (hLw b hb))
  replace hrL := hrL.ll hb22 (fun b hb => List.mem_cons_of_mem _ (hLr b hb))
  replace hown := hown.kpd hb22.kp (by first | (refine notLL ?_; left; omega) | (refine notLL ?_; right; simp; done) | (intro b o e; cases e; first | (refine notLL ?_; left; omega) | (refine notLL ?_; right; simp; done) | (refine notLL ?_; right; simp [*]; done)) | (intro b hb; refine notLL ?_; left; omega) | (intro b hb e; cases e; exact notLL (by right; simp [*]) hb))
  refine WR_val rfl (rn_assign) ?_
  refine WR_nil ?_
  refine thenN ?_
  refine W_seq ?_
  refine W_block ?_
  refine W_seq ?_
  refine W_region ?_
  refine WR_val rfl (rn_move) ?_
  refine WR_val rfl (rn_assign) ?_
  refine WR_nil ?_
  refine thenN ?_
  refine W_fb rfl (hd) ?_
  refine W_seq ?_
  refine W_region ?_
  refine WR_val rfl (rn_move) ?_
  refine WR_ent rfl (rn_call (by kernel_rfl) rfl) (may12 r hr q r.length cq w22 hrL.at_ rfl (by omega)) ?_
  rintro _ _ ⟨rfl, rfl⟩
  refine WR_val rfl (rn_not rfl) ?_
  refine WR_val rfl (rn_assign) ?_
  refine WR_nil ?_
  refine thenN ?_
  refine W_fnb rfl (hm) ?_
  refine W_seq ?_
  refine W_region ?_
  refine WR_val rfl (rn_move) ?_
  refine WR_val rfl (rn_lenSl (e := 112) (sz := 513) (by kernel_rfl) rfl rfl) ?_
  refine WR_ent rfl (rn_call (by kernel_rfl) rfl) (rneed11 (r.length : Int) w22) ?_
  rintro _ _ ⟨rfl, rfl⟩
  refine WR_val rfl (rn_move) ?_
  obtain ⟨pw, cw, L1, hyr, _⟩ := hw.ex
  unfold rlC at hyr
  refine WR_ent rfl (rn_call (by kernel_rfl) rfl) (room21r hyr han hn4) ?_
  rintro _ w59 ⟨rfl, hb59⟩
  replace hG := hG.new hb59
  replace hown := hown.new hb59
  replace hLL := hLL.new hb59
  replace hw := hw.new hb59
  replace hrL := hrL.new hb59
  refine WR_val rfl (rn_gtr rfl rfl) ?_
  refine WR_val rfl (rn_assign) ?_
  refine WR_nil ?_
  refine thenN ?_
  refine W_fp rfl ((by rw [hnw]; omega)) ?_
  refine W_seq ?_
  refine W_region ?_
  refine WR_val rfl (rn_move) ?_
  refine WR_val rfl (rn_neq rfl rfl) ?_
  refine WR_val rfl (rn_assign) ?_
  refine WR_nil ?_
  refine thenN ?_
  refine W_tp rfl ((by decide)) ?_
  refine W_seq ?_
  refine W_region ?_
  refine WR_val rfl (rn_move) ?_
  refine WR_val rfl (rn_eql rfl rfl) ?_
  refine WR_val rfl (rn_move) ?_
  refine WR_tp 81 rfl (rfl) ?_
  refine WR_yes rfl ?_
  refine WR_val rfl (rn_move) ?_
  refine WR_yes rfl ?_
  refine WR_ent rfl (rn_call (by kernel_rfl) rfl) (tDead hG.fst) ?_
  rintro _ _ ⟨rfl, rfl⟩
  refine WR_val rfl (rn_pick_t rfl) ?_
  refine WR_val rfl (rn_move) ?_
  refine WR_tb 85 rfl (hdd) ?_
  refine WR_yes rfl ?_
  refine WR_val rfl (rn_move) ?_
  refine WR_yes rfl ?_
  refine WR_ent rfl (rn_call (by kernel_rfl) rfl) (dead23 hG) ?_
  rintro _ _ ⟨rfl, rfl⟩
  refine WR_val rfl (rn_pick_t rfl) ?_
  refine WR_val rfl (rn_assign) ?_
  refine WR_nil ?_
  refine thenN ?_
  refine W_ret ?_
  refine blockR ?_
  refine thenR ?_
  refine ret_ret [_] ⟨rfl, trivial⟩ ?_
  exact ⟨rfl, ⟨ga :: L, Lw, hG, hw, fun b hb => List.mem_cons_of_mem _ hb, fun b hb => ⟨List.mem_cons_of_mem _ (hLw b hb), .inl hb⟩⟩, hLL⟩
set_option maxRecDepth 20000 in
set_option maxHeartbeats 2000000 in
theorem com_ok (hG : LgAt g x None lo L D G w) (hLk : ∀ b ∈ Lk, b ∈ L) (hyk : y ∉ Lk) (hw : WAt lo Lw w y c s n a S) (hLw : ∀ b ∈ Lw, b ∈ L) (hrL : RecL lo Lr w q r) (hLr : ∀ b ∈ Lr, b ∈ L) (hyr : y ∉ Lr) (hV1 : 1 ≤ D.V.length) (hV : D.V.length ≤ 8192) (hok : LgOk D G) (hsh : shortD D 80000) (hr : chsOk r) (hr2 : r.length ≤ 1000000) (hd : G.dead = false) (hdD : D.dead = false) (hm : mayR r = true) (hfit : ¬ n < a + needN (516 * r.length)) (hc : G.count = c) (hs : G.since = s) (hn : G.num = S.length) (hz : G.size = n) (ha : G.at_ = a) (han : a ≤ n) (hn4 : n ≤ 4000)
    (hp : (putW D (1 + G.at_) (rowW G r)).2 = true) :
    Calls Tryz.prog 27 [.pointer (some ⟨g, 0, none⟩), .pointer (some ⟨x, 0, none⟩), .pointer (some ⟨y, 0, none⟩), .slice q r.length cq].toArray w (Ret fun v w' => ComOut g x lo (putW D (1 + G.at_) (rowW G r)).1 { G with at_ := G.at_ + (rowW G r).length, num := G.num + 1 } y c s n (a + needN (516 * r.length)) (S ++ [r]) L Lw Lr Lk w v w') := by
  have hr60 := of_decide_eq_true (Bool.and_eq_true_iff.1 hm).1
  have hnw := (needW_pos hr60).1
  have hRl := rowW_len G r
  obtain ⟨hRf, hRo⟩ := rowW_flat G hr
  have hcm : commitR D G r = (0, (putW D (1 + G.at_) (rowW G r)).1, { G with at_ := G.at_ + (rowW G r).length, num := G.num + 1 }) := by
    rw [commitR, hd, if_neg (by simp), if_neg (by rw [hm]; simp), if_neg (by rw [rowW_len, hz, ha]; exact hfit), hp, if_pos rfl]
  have hfitV := hok.fit
  have hatz := hok.at_
  have hnumz := hok.num
  have hcz := hok.cm
  rcases put_good (rowW G r) (1 + G.at_) hdD (by rw [hRl, ha]; omega) with ⟨_, hdd, hsh1, hrd⟩ | ⟨e, _⟩
  case inr => rw [hp] at e; cases e
  have hN : needN (516 * r.length) ≤ 340 := by unfold needN manyN; omega
  have hfin := putL_sec (D := D) (D' := (putW D (1 + G.at_) (rowW G r)).1) (m := D.V.length) hrd
  have hlen2 := put_len D (1 + G.at_) (rowW G r)
  rw [hc, hn] at hRf
  obtain ⟨D2, hD2⟩ : ∃ D2, (putW D (1 + G.at_) (rowW G r)).1 = D2 := ⟨_, rfl⟩
  rw [hD2] at hcm hdd hsh1 hfin hlen2 ⊢
  clear hD2 hrd hp
  obtain ⟨G2, hG2⟩ : ∃ G2 : Lg, { G with at_ := G.at_ + (rowW G r).length, num := G.num + 1 } = G2 := ⟨_, rfl⟩
  have g1 : G2.count = c := by rw [← hG2]; exact hc
  have g2 : G2.since = s := by rw [← hG2]; exact hs
  have g3 : G2.num = (S ++ [r]).length := by rw [← hG2, List.length_append, List.length_singleton, ← hn]
  have g4 : G2.size = n := by rw [← hG2]; exact hz
  have g5 : G2.at_ = a + needN (516 * r.length) := by rw [← hG2, ← hRl, ← ha]
  rw [hG2] at hcm ⊢
  clear hG2
  rw [hRl] at hfin
  generalize rowW G r = R at *
  obtain ⟨N, hNe⟩ : ∃ N, needN (516 * r.length) = N := ⟨_, rfl⟩
  have hrow := fun w' (hw' : WAt lo Lw w' y c s n a S) (hq' : SlAt w' q r.length 513 (chsV r)) => row55 hw' r hr hm q cq hq' (by omega) (by omega)
  have hNp := (needW_pos hr60).2
  rw [hNe] at hRl hN hNp hnw hfit g5 hfin hrow ⊢
  rw [← hRf] at hrow
  have hLL := LoL.refl lo Lk w
  have hml : maxLen = 9223372036854775807 := by decide
  have hDk := (tOk hG.two).1
  have hso := secD_ok hDk (n := D.V.length) (Nat.le_refl _)
  have hLt : ∀ b ∈ L, b < w.heap.size := fun b hb => hG.two.lt b (List.mem_cons_of_mem _ hb)
  have hlo0 : lo ≤ w.heap.size := hG.two.lo
  refine calls_W (fn := Tryz.f27) (rs := [.tmp 8]) (n := 149) Tryz.func27 rfl rfl Tryz.ntmps27 (by kernel_rfl) rfl ?_
  refine W_seq ?_
  refine W_region ?_
  refine WR_val rfl (rn_assign) ?_
  refine WR_nil ?_
  refine thenN ?_
  refine W_seq ?_
  refine W_region ?_
  refine WR_val rfl (rn_move) ?_
  refine WR_val rfl (rn_move) ?_
  refine WR_ent rfl (rn_call (by kernel_rfl) rfl) (tSectors hG.fst) ?_
  rintro _ _ ⟨rfl, rfl⟩
  refine WR_ent rfl (rn_call (by kernel_rfl) rfl) (sectors31 hG.fst D.V.length (by omega) (by omega)) ?_
  rintro _ w17 ⟨hu, hb17⟩
  obtain ⟨ga, oa, ca, rfl, hga1, hga2, hca⟩ := hu.form' (by omega)
  replace hG := hG.newc hb17 hga1 hga2
  replace hw := hw.new hb17
  replace hrL := hrL.new hb17
  have hown : OwnG _ 0 45 128 ga oa D.V.length ca _ := hu.mono (Nat.zero_le _)
  replace hLL := hLL.new hb17
  refine WR_val rfl (rn_assign) ?_
  refine WR_nil ?_
  refine thenN ?_
  refine W_seq ?_
  refine W_region ?_
  refine WR_val rfl (rn_move) ?_
  refine WR_ent rfl (rn_call (by kernel_rfl) rfl) (dead23 hG) ?_
  rintro _ _ ⟨rfl, rfl⟩
  refine WR_val rfl (rn_assign) ?_
  refine WR_nil ?_
  refine thenN ?_
  refine W_seq ?_
  refine W_region ?_
  refine WR_val rfl (rn_move) ?_
  refine WR_val rfl (rn_move) ?_
  have hcd := commit17 hG hok hsh r hr q r.length cq hrL.at_ rfl hr2
  rw [hcm] at hcd
  dsimp only at hcd
  have hgaL : ga ∉ L := fun hm2 => absurd (hLt ga hm2) (Nat.not_lt.2 hga1)
  have hlga : lo ≤ ga := Nat.le_trans hlo0 hga1
  have hsubr : ∀ b ∈ Lr, b ∈ ga :: L := fun b hb => List.mem_cons_of_mem _ (hLr b hb)
  refine WR_ent rfl (rn_call (by kernel_rfl) rfl) (hcd) ?_
  rintro _ w22 ⟨rfl, hG, hb22⟩
  replace hLL := hLL.ll hb22 (fun b hb => List.mem_cons_of_mem _ (hLk b hb))
  replace hw := hw.ll hb22 (fun b hb => List.mem_cons_of_mem _ (hLw b hb))
  replace hrL := hrL.ll hb22 (fun b hb => List.mem_cons_of_mem _ (hLr b hb))
  replace hown := hown.kpd hb22.kp (by first | (refine notLL ?_; left; omega) | (refine notLL ?_; right; simp; done) | (intro b o e; cases e; first | (refine notLL ?_; left; omega) | (refine notLL ?_; right; simp; done) | (refine notLL ?_; right; simp [*]; done)) | (intro b hb; refine notLL ?_; left; omega) | (intro b hb e; cases e; exact notLL (by right; simp [*]) hb))
  refine WR_val rfl (rn_assign) ?_
  refine WR_nil ?_
  refine thenN ?_
  refine W_seq ?_
  refine W_block ?_
  refine W_seq ?_
  refine W_region ?_
  refine WR_val rfl (rn_move) ?_
  refine WR_val rfl (rn_assign) ?_
  refine WR_nil ?_
  refine thenN ?_
  refine W_fb rfl (hd) ?_
  refine W_seq ?_
  refine W_region ?_
  refine WR_val rfl (rn_move) ?_
  refine WR_ent rfl (rn_call (by kernel_rfl) rfl) (may12 r hr q r.length cq w22 hrL.at_ rfl (by omega)) ?_
  rintro _ _ ⟨rfl, rfl⟩
  refine WR_val rfl (rn_not rfl) ?_
  refine WR_val rfl (rn_assign) ?_
  refine WR_nil ?_
  refine thenN ?_
  refine W_fnb rfl (hm) ?_
  refine W_seq ?_
  refine W_region ?_
  refine WR_val rfl (rn_move) ?_
  refine WR_val rfl (rn_lenSl (e := 112) (sz := 513) (by kernel_rfl) rfl rfl) ?_
  refine WR_ent rfl (rn_call (by kernel_rfl) rfl) (rneed11 (r.length : Int) w22) ?_
  rintro _ _ ⟨rfl, rfl⟩
  refine WR_val rfl (rn_move) ?_
  obtain ⟨pw, cw, L1, hyr2, hAw, hyL1, hL1⟩ := hw.ex
  unfold rlC at hyr2
  refine WR_ent rfl (rn_call (by kernel_rfl) rfl) (room21r hyr2 han hn4) ?_
  rintro _ w59 ⟨rfl, hb59⟩
  replace hG := hG.new hb59
  replace hown := hown.new hb59
  replace hLL := hLL.new hb59
  replace hw := hw.new hb59
  replace hrL := hrL.new hb59
  refine WR_val rfl (rn_gtr rfl rfl) ?_
  refine WR_val rfl (rn_assign) ?_
  refine WR_nil ?_
  refine thenN ?_
  refine W_fp rfl ((by rw [hnw]; omega)) ?_
  refine W_seq ?_
  refine W_region ?_
  refine WR_val rfl (rn_move) ?_
  refine WR_val rfl (rn_neq rfl rfl) ?_
  refine WR_val rfl (rn_assign) ?_
  refine WR_nil ?_
  refine thenN ?_
  refine W_fp rfl ((by decide)) ?_
  refine W_skip ?_
  refine blockN ?_
  refine thenN ?_
  refine W_seq ?_
  refine W_region ?_
  refine WR_val rfl (rn_move) ?_
  refine WR_val rfl (rn_move) ?_
  refine WR_ent rfl (rn_call (by kernel_rfl) rfl) (hrow w59 hw hrL.at_) ?_
  rintro _ w91 ⟨⟨qr, cr, rfl, hro⟩, hb91⟩
  have hrob := hro.sl.some (by omega)
  obtain ⟨gr, orr, rfl, _⟩ := hrob
  have hgr := hro.lt gr rfl
  have hgg := hown.lt
  have hro2 : OwnG _ 0 45 128 gr orr N cr _ := hro.mono (Nat.zero_le _)
  replace hG := hG.new hb91
  replace hown := hown.new hb91
  replace hLL := hLL.new hb91
  replace hw := hw.new hb91
  replace hrL := hrL.new hb91
  refine WR_val rfl (rn_assign) ?_
  refine WR_nil ?_
  refine thenN ?_
  refine W_seq ?_
  refine W_seq ?_
  refine W_region ?_
  refine WR_val rfl (rn_assign) ?_
  refine WR_nil ?_
  refine thenN ?_
  refine W_block ?_
  have hgaLr : ga ∉ Lr := fun hm2 => hgaL (hLr _ hm2)
  have hgaLw : ga ∉ Lw := fun hm2 => hgaL (hLw _ hm2)
  have hyg : y ≠ ga := fun e => hgaL (e ▸ hLw _ hw.inL)
  have hgrga : gr ≠ ga := by omega
  have hRlen : R.length = N := hRl
  rw [ha] at hfin
  have hp0 : secD D D.V.length = putL (secD D D.V.length) (1 + a) R 0 := rfl
  rw [hp0] at hown
  have hsl1 := secD_len D D.V.length
  have hobt : ∃ W1, secD D D.V.length = W1 := ⟨_, rfl⟩
  obtain ⟨W1, hW1⟩ := hobt
  rw [hW1] at hfin hown hsl1
  have hso1 : secsOk W1 := hW1 ▸ hso
  have hnumb : 1 + a + N ≤ D.V.length := by omega
  refine W_loop (α := Nat) 0 (fun i => [(13, .int .i64 (i : Nat)), (12, .slice (some ⟨gr, orr, none⟩) N cr), (9, .slice (some ⟨ga, oa, none⟩) D.V.length ca), (2, .pointer (some ⟨y, 0, none⟩)), (0, .pointer (some ⟨g, 0, none⟩)), (1, .pointer (some ⟨x, 0, none⟩)), (3, .slice q r.length cq)])
    (fun i w' => i ≤ N ∧ OwnG w' 0 45 128 ga oa D.V.length ca (bv (putL W1 (1 + a) R i).flatten) ∧ OwnG w' 0 45 128 gr orr N cr (bv R.flatten) ∧ LgAt g x None lo (ga :: L) D2 G2 w' ∧ WAt lo Lw w' y c s n a S ∧ RecL lo Lr w' q r ∧ LoL lo Lk w w') (fun i => N - i)
    ⟨rfl, rfl, rfl, rfl, rfl, rfl, rfl, rfl⟩ ⟨Nat.zero_le _, hown, hro2, hG, hw, hrL, hLL⟩ ?_
  clear hown hro2 hG hw hrL hLL hyr2 hAw hro
  rintro i f wr ⟨hi, hown, hro2, hG, hw, hrL, hLL⟩
  have hpl := putL_len W1 (1 + a) R i
  have hpo := putL_ok hso1 hRo (1 + a) i
  have hpf := flat_len hpo
  rw [hpl, hsl1] at hpf
  have hps := putL_succ W1 (1 + a) R i
  have hgd := getD_ok hRo i
  have hRi : i < N → R[i]? = some (R.getD i zeroS) := fun h => by rw [List.getD_eq_getElem?_getD, List.getElem?_eq_getElem (by omega)]; rfl
  generalize R.getD i zeroS = s1 at hps hgd hRi
  have hsb1 : (bv s1).length = 128 := by rw [bv_length]; exact hgd
  refine W_seq ?_
  refine W_seq ?_
  refine W_region ?_
  refine WR_val rfl (rn_move) ?_
  refine WR_val rfl (rn_move) ?_
  refine WR_val rfl (rn_lenSl (e := 45) (sz := 128) (by kernel_rfl) rfl rfl) ?_
  refine WR_val rfl (rn_lss rfl rfl) ?_
  refine WR_nil ?_
  refine thenN ?_
  refine W_ifp rfl (fun hlt => ?_) (fun hlt => ?_)
  ·
    refine W_skip ?_
    refine thenN ?_
    refine W_seq ?_
    refine W_block ?_
    obtain ⟨pw, cw, L1, hy, hAw, hyL1, hL1⟩ := hw.ex
    unfold rlC at hy
    refine W_draw' [ga] (by kernel_rfl) ?_
    intro w901 hb901 hS901
    replace hG := hG.new hb901
    replace hown := hown.new hb901
    replace hLL := hLL.new hb901
    replace hw := hw.new hb901
    replace hrL := hrL.new hb901
    replace hro2 := hro2.new hb901
    replace hy := hy.new hb901
    have hG_d901 := hG
    have hown_d901 := hown
    have hLL_d901 := hLL
    have hw_d901 := hw
    have hrL_d901 := hrL
    have hro2_d901 := hro2
    have hy_d901 := hy
    refine WA_take 0 (by kernel_rfl) rfl (fun _ _ => rn_move) ?_
    refine WA_take 1 (by kernel_rfl) rfl (fun _ _ => rn_move) ?_
    refine WA_take 2 (by kernel_rfl) rfl (fun _ _ => rn_nilCheckP rfl) ?_
    refine WA_take 3 (by kernel_rfl) rfl (fun _ _ => rn_fieldAddr (off := 4) (by kernel_rfl) rfl) ?_
    refine WA_take 4 (by kernel_rfl) rfl (fun w' hS' => rn_load rfl (Ld.row1 (hy_d901.kpd hS' (by first | (simp; done) | (simp; omega) | (simp [*]; done) | exact notLL (Or.inl (by omega)) | exact notLL (Or.inr (by simp)) | exact fun g hm => Nat.le_trans (by omega) (inLL hm).1 | (intro b o e; cases e; exact notLL (Or.inl (by omega))) | (intro b hm; have := (hu.lt b (Option.mem_toList.1 hm)).1; omega) | (intro b o e; cases e; intro hm; have := (hu.lt _ (Option.mem_toList.1 hm)).1; omega))) (by kernel_rfl) rfl)) ?_
    refine WA_take 5 (by kernel_rfl) rfl (fun _ _ => rn_add rfl rfl (Coup.w64 (by omega))) ?_
    refine WA_take 6 (by kernel_rfl) rfl (fun _ _ => rn_move) ?_
    refine WA_take 7 (by kernel_rfl) rfl (fun _ _ => rn_add rfl rfl (Coup.w64 (by omega))) ?_
    refine WA_take 8 (by kernel_rfl) rfl (fun _ _ => rn_move) ?_
    refine WA_take 9 (by kernel_rfl) rfl (fun _ _ => rn_move) ?_
    refine WA_take 10 (by kernel_rfl) rfl (fun _ _ => rn_indexSl (e := 45) (sz := 128) (by kernel_rfl) rfl rfl (i) (by omega) (by omega)) ?_
    refine WA_take 11 (by kernel_rfl) rfl (fun w' hS' => rn_load rfl (ld_sec (ownsAt.sl (hro2_d901.kpd hS' (by first | (simp; done) | (simp; omega) | (simp [*]; done) | exact notLL (Or.inl (by omega)) | exact notLL (Or.inr (by simp)) | exact fun g hm => Nat.le_trans (by omega) (inLL hm).1 | (intro b o e; cases e; exact notLL (Or.inl (by omega))) | (intro b hm; have := (hu.lt b (Option.mem_toList.1 hm)).1; omega) | (intro b o e; cases e; intro hm; have := (hu.lt _ (Option.mem_toList.1 hm)).1; omega)))) hRo (hRi (by omega)))) ?_
    refine WA_take 12 (by kernel_rfl) rfl (fun _ _ => rn_indexSl (e := 45) (sz := 128) (by kernel_rfl) rfl rfl ((1 + a + i)) (by omega) (by omega)) ?_
    refine WA_one 13 (by kernel_rfl) ?_
    refine WO_sk rfl rfl (sk_storeO (bv s1) ((1 + a + i) * 128) hown rfl rfl (by rw [hsb1]; kernel_rfl) (by simp only [bv_length]; omega) (bv_one _) (fun w903 hown ho903 => ?_))
    have hS902 := hS901.add1 ho903 (by first | (left; omega) | (right; simp; done) | (right; simp; omega))
    refine ⟨hS902, ?_⟩
    replace hG := hG.only ho903 (by first | (right; simp; done) | (left; omega))
    replace hLL := hLL.only ho903 (by first | omega | (right; exact ⟨by omega, by assumption⟩))
    replace hw := hw.only ho903 (by first | omega | (right; exact ⟨by omega, by assumption⟩))
    replace hrL := hrL.only ho903 (by first | omega | (right; exact ⟨by omega, by assumption⟩))
    replace hro2 := hro2.only ho903 (by omega)
    replace hy := hy.only ho903 (by omega)
    rw [flat_set hpo (by omega) hgd, ← hps] at hown
    refine WA_done (by kernel_rfl) ?_
    refine blockN ?_
    refine thenN ?_
    refine W_region ?_
    refine WR_val rfl (rn_move) ?_
    refine WR_val rfl (rn_add rfl rfl (Coup.w64 (by omega))) ?_
    refine WR_val rfl (rn_assign) ?_
    refine WR_nil ?_
    refine loopN ⟨i + 1, by omega, ⟨by go_num, rfl, rfl, rfl, rfl, rfl, rfl, rfl⟩, by omega, hown, hro2, hG, hw, hrL, hLL⟩
  ·
    have hin : i = N := by omega
    subst hin
    rw [hfin] at hown
    have hinL := hLw _ hw.inL
    have hyge := hw.ge
    refine W_exit ?_
    refine thenX ?_
    refine loopX ?_
    refine blockX ?_
    refine thenN ?_
    refine W_seq ?_
    refine W_region ?_
    obtain ⟨pw, cw, L1, hy, hAw, hyL1, hL1⟩ := hw.ex
    unfold rlC at hy
    have hylt := hy.lt
    refine WR_val rfl (rn_move) ?_
    refine WR_val rfl (rn_move) ?_
    refine WR_val rfl (rn_nilCheckP rfl) ?_
    refine WR_val rfl (rn_fieldAddr (off := 3) (by kernel_rfl) rfl) ?_
    refine WR_val rfl (rn_load rfl (Ld.row1 hy (by kernel_rfl) rfl)) ?_
    have hBx := Below.refl wr.heap.size wr
    have hLLs := hLL.size
    obtain ⟨vs, hvs, hvsh, hel⟩ := hAw.ex
    have hvl : vs.length = S.length := by have := hvs.len; omega
    have hv1 := AllL.one (i := 0) vs hel hvl
    refine WR_mk rfl (mk_append (e := 60) (sz := 1) (bytes := 24) (z := Value.slice none 0 0) (by kernel_rfl) rfl (by kernel_rfl) rfl (by decide) rfl (ownsAt_nil wr wr.heap.size 60 1) rfl hvs hv1 (by unfold maxLen; omega) (by omega) (fun _ => Nat.le_refl _) (fun v116 w116 hv116 hgr116 hfr116 => ?_))
    have hb116 := below_of_nil hgr116
    replace hy := hy.new hb116
    replace hBx := hBx.acc hb116
    refine WR_val rfl (rn_move) ?_
    refine WR_mk rfl (mk_one (e := 60) (.slice q r.length cq) ([.slice q r.length cq]) ([Value.slice none 0 0]) 1 (by kernel_rfl) (by kernel_rfl) rfl rfl rfl ⟨by decide, by decide⟩ (fun g118 w118 hg118 hr118 hb118 => ?_))
    have ge_hBx_g118 := Nat.le_trans hBx.size hg118
    have lt_y_g118 : y < g118 := Nat.lt_of_lt_of_le hy.lt hg118
    replace hy := hy.new hb118
    replace hv116 := hv116.new hb118
    replace hBx := hBx.acc hb118
    have hs118 := hr118.slA (m := 1) (sz := 1) rfl (by omega)
    have sz_hBx_119 := hBx.size
    refine WR_mk rfl (mk_append (e := 60) (sz := 1) (bytes := 24) (z := Value.slice none 0 0) (by kernel_rfl) rfl (by kernel_rfl) rfl (by decide) rfl hv116 rfl hs118 (by simp [Value.oneCell']) (by unfold maxLen; omega) (by omega) (fun hm0 => by omega) (fun v119 w119 hv119 hgr119 hfr119 => ?_))
    replace hy := hy.own hv116 hgr119 (by omega)
    replace hBx := hBx.own hv116 hgr119 (by omega)
    have hs119 := hv119.form
    obtain ⟨p4, c4, rfl⟩ := hs119
    have hm1 : 0 + S.length + 1 = (S ++ [r]).length := by simp
    replace hG := hG.newv hBx hv119 (Nat.le_refl _)
    have hb4 := fun b hb => (hv119.lt b hb).1
    rw [hm1, List.nil_append] at hv119
    rw [hm1] at hG hb4
    have hmore := AllL.snoc (L := (Value.slice p4 (S ++ [r]).length c4).ownBlock.toList ++ (Lr ++ L1)) hv119.sl (own_shel (L := Lr ++ L1) hv119) hvl (fun i y hy => let ⟨q, c, e, h5⟩ := hel i y hy; ⟨q, c, e, (h5.new hBx).weak fun b hb => List.mem_append_right _ (List.mem_append_right _ hb)⟩) ((hrL.new hBx).weak fun b hb => List.mem_append_right _ (List.mem_append_left _ hb))
    have hyL5 : y ∉ (Value.slice p4 (S ++ [r]).length c4).ownBlock.toList ++ (Lr ++ L1) := fun hm2 => by
      rcases List.mem_append.1 hm2 with h | h
      · have := hb4 y (Option.mem_toList.1 h); omega
      · rcases List.mem_append.1 h with h | h
        · exact hyr h
        · exact hyL1 h
    have hL56 : ∀ b ∈ (Value.slice p4 (S ++ [r]).length c4).ownBlock.toList ++ (Lr ++ L1), b ∈ (Value.slice p4 (S ++ [r]).length c4).ownBlock.toList ++ (ga :: L) := fun b hm2 => by
      rcases List.mem_append.1 hm2 with h | h
      · exact List.mem_append_left _ h
      · rcases List.mem_append.1 h with h | h
        · exact List.mem_append_right _ (hsubr b h)
        · exact List.mem_append_right _ (List.mem_cons_of_mem _ (hLw b (hL1 b h)))
    have hL5o : ∀ b ∈ y :: ((Value.slice p4 (S ++ [r]).length c4).ownBlock.toList ++ (Lr ++ L1)), b ∈ Lw ∨ b ∈ Lr ∨ w.heap.size ≤ b := fun b hm2 => by
      rcases List.mem_cons.1 hm2 with rfl | hm2
      · exact .inl hw.inL
      · rcases List.mem_append.1 hm2 with h | h
        · have := hb4 b (Option.mem_toList.1 h); have := hLLs; exact .inr (.inr (by omega))
        · rcases List.mem_append.1 h with h | h
          · exact .inr (.inl h)
          · exact .inl (hL1 b h)
    replace hown := hown.new hBx
    replace hLL := hLL.new hBx
    have hobt : ∃ L5, (Value.slice p4 (S ++ [r]).length c4).ownBlock.toList ++ (Lr ++ L1) = L5 := ⟨_, rfl⟩
    obtain ⟨L5, hL5⟩ := hobt
    have hobt : ∃ L6, (Value.slice p4 (S ++ [r]).length c4).ownBlock.toList ++ (ga :: L) = L6 := ⟨_, rfl⟩
    obtain ⟨L6, hL6⟩ := hobt
    have hL6g : ∀ b ∈ ga :: L, b ∈ L6 := fun b hb => by rw [← hL6]; exact List.mem_append_right _ hb
    rw [hL5] at hmore hyL5 hL56 hL5o
    rw [hL6] at hG hL56
    have hK := KpB.refl [y] w119
    refine WR_val rfl (rn_nilCheckP rfl) ?_
    refine WR_val rfl (rn_fieldAddr (off := 3) (by kernel_rfl) rfl) ?_
    refine WR_sk rfl (sk_store1 rfl rfl rfl rfl hy (by kernel_rfl) (by first | (simp only [List.length_replicate]; omega) | (simp only [iv_length]; omega) | (simp only [bv_length, List.length_set]; omega) | simp) (fun w904 hy ho904 => ?_))
    replace hK := hK.only ho904 (by simp)
    replace hy : row w904 y [.int .u64 (c : Int), .int .u64 (s : Int), .int .i64 (n : Int), .slice p4 (0 + S.length + 1) c4, .int .i64 (a : Int)] 43 := hy
    refine WR_nil ?_
    refine thenN ?_
    refine W_seq ?_
    refine W_region ?_
    refine WR_val rfl (rn_move) ?_
    refine WR_val rfl (rn_move) ?_
    refine WR_val rfl (rn_nilCheckP rfl) ?_
    refine WR_val rfl (rn_fieldAddr (off := 4) (by kernel_rfl) rfl) ?_
    refine WR_val rfl (rn_load rfl (Ld.row1 hy (by kernel_rfl) rfl)) ?_
    refine WR_val rfl (rn_move) ?_
    refine WR_val rfl (rn_lenSl (e := 45) (sz := 128) (by kernel_rfl) rfl rfl) ?_
    refine WR_val rfl (rn_add rfl rfl (Coup.w64 (by omega))) ?_
    refine WR_val rfl (rn_nilCheckP rfl) ?_
    refine WR_val rfl (rn_fieldAddr (off := 4) (by kernel_rfl) rfl) ?_
    refine WR_sk rfl (sk_store1 rfl rfl rfl rfl hy (by kernel_rfl) (by first | (simp only [List.length_replicate]; omega) | (simp only [iv_length]; omega) | (simp only [bv_length, List.length_set]; omega) | simp) (fun w905 hy ho905 => ?_))
    replace hK := hK.only ho905 (by simp)
    replace hy : row w905 y [.int .u64 (c : Int), .int .u64 (s : Int), .int .i64 (n : Int), .slice p4 (0 + S.length + 1) c4, .int .i64 ((a : Int) + (i : Nat))] 43 := hy
    rw [hm1, show (a : Int) + (i : Nat) = ((a + i : Nat) : Int) by omega] at hy
    replace hmore := hmore.kpd hK.k (fun b hb hx => by
      rw [List.mem_singleton.1 hb] at hx
      exact hx.elim (fun h => by omega) hyL5)
    replace hG := hG.kpd hK.k (fun b hb => by rw [List.mem_singleton.1 hb]; exact .inr (hL6g y (List.mem_cons_of_mem _ hinL)))
    replace hown := hown.kpd hK.k (by simpa using fun e => hyg e.symm)
    replace hLL := hLL.kpd hK.k (fun b hb => by rw [List.mem_singleton.1 hb]; exact .inl ⟨hyge, hyk⟩)
    have hw2 : WAt lo (y :: L5) w905 y c s n (a + i) (S ++ [r]) := ⟨⟨p4, c4, L5, hy, hmore, hyL5, fun b hb => List.mem_cons_of_mem _ hb⟩, List.mem_cons_self .., hyge⟩
    have hyL6 : ∀ b ∈ y :: L5, b ∈ L6 := fun b hb => (List.mem_cons.1 hb).elim (fun e => e ▸ hL6g y (List.mem_cons_of_mem _ hinL)) (hL56 b)
    refine WR_nil ?_
    refine thenN ?_
    refine W_seq ?_
    refine W_region ?_
    refine WR_val rfl (rn_move) ?_
    refine WR_val rfl (rn_move) ?_
    refine WR_ent rfl (rn_call (by kernel_rfl) rfl) (looks26 hG (hw2.weak hyL6) g1 g2 g3 g4 g5 (by omega) hn4) ?_
    rintro _ w134 ⟨rfl, hb134⟩
    replace hG := hG.new hb134
    replace hown := hown.new hb134
    replace hw2 := hw2.new hb134
    replace hLL := hLL.new hb134
    refine WR_val rfl (rn_move) ?_
    refine WR_tb 135 rfl (rfl) ?_
    refine WR_yes rfl ?_
    refine WR_val rfl (rn_move) ?_
    refine WR_yes rfl ?_
    refine WR_val rfl (rn_move) ?_
    refine WR_yes rfl ?_
    refine WR_ent rfl (rn_call (by kernel_rfl) rfl) (tSectors hG.fst) ?_
    rintro _ _ ⟨rfl, rfl⟩
    refine WR_yes rfl ?_
    refine WR_ent rfl (rn_call (by kernel_rfl) rfl) (sectors31 hG.fst D2.V.length (by omega) (by omega)) ?_
    rintro _ w139 ⟨hu2, hb139⟩
    replace hG := hG.new hb139
    replace hown := hown.new hb139
    replace hw2 := hw2.new hb139
    replace hLL := hLL.new hb139
    refine WR_yes rfl ?_
    refine WR_val rfl (rn_move) ?_
    refine WR_yes rfl ?_
    have hs2 := hu2.form
    obtain ⟨pu2, cu2, rfl⟩ := hs2
    have hown2 := ownsAt.sl hown
    have hDk2 := (tOk hG.two).1
    refine WR_ent rfl (rn_call (by kernel_rfl) rfl) (same33 (secD D2 D2.V.length) (secD D2 D.V.length) (secD_ok hDk2 (Nat.le_refl _)) (secD_ok hDk2 (by omega)) pu2 _ D2.V.length D.V.length cu2 ca w139 hu2.sl hown2 (secD_len _ _) (secD_len _ _) (by omega)) ?_
    rintro _ w141 ⟨⟨bb, rfl, hbb⟩, hb141⟩
    replace hG := hG.new hb141
    replace hown := hown.new hb141
    replace hw2 := hw2.new hb141
    replace hLL := hLL.new hb141
    replace hu2 := hu2.new hb141
    refine WR_val rfl (rn_pick_t rfl) ?_
    refine WR_val rfl (rn_move) ?_
    refine WR_tb 143 rfl ((hbb.2 (by rw [hlen2]))) ?_
    refine WR_yes rfl ?_
    refine WR_val rfl (rn_move) ?_
    refine WR_yes rfl ?_
    refine WR_ent rfl (rn_call (by kernel_rfl) rfl) (tOpen hG.fst hsh1) ?_
    rintro _ w145 ⟨⟨po, co, rfl⟩, hb145⟩
    replace hG := hG.new hb145
    replace hown := hown.new hb145
    replace hw2 := hw2.new hb145
    replace hLL := hLL.new hb145
    replace hu2 := hu2.new hb145
    refine WR_yes rfl ?_
    refine WR_val rfl (rn_lenSl (e := 3) (sz := 1) (by kernel_rfl) rfl rfl) ?_
    refine WR_yes rfl ?_
    refine WR_val rfl (rn_eql rfl rfl) ?_
    refine WR_val rfl (rn_pick_t rfl) ?_
    refine WR_val rfl (rn_assign) ?_
    refine WR_nil ?_
    refine thenN ?_
    refine W_ret ?_
    refine ret_ret [_] ⟨rfl, trivial⟩ ?_
    exact ⟨rfl, ⟨L6, y :: L5, hG, hw2, fun b hb => hL6g b (List.mem_cons_of_mem _ hb), fun b hb => ⟨hyL6 b hb, hL5o b hb⟩⟩, hLL⟩
end
end Go.Proofs.YtkkgahgpemepeaaGreat
namespace Go.Proofs.YtkkgahgpemepeaaGreat
open Go Go.RowKit Coup
def lowS (m0 : Nat) (v : Sec) : Prop := (mayH (fstH v) → hCount (fstH v) ≤ m0) ∧ (mayH (sndH v) → hCount (sndH v) ≤ m0)
structure PlayI (D : Dk) (n cb m0 : Nat) : Prop where
  ok : DkOk D
  len : D.V.length = n + 5
  two : shortD D 2
  one : D.dead = false → shortD D 1
  heads : ∀ v ∈ ver D 0, ∃ c s, v = headB c s ∧ 1 ≤ s ∧ s ≤ c ∧ m0 ≤ c ∧ c ≤ cb
  low : ∀ j, j < n → ∀ v ∈ ver D (1 + j), lowS m0 v
theorem lowS.up {m m' : Nat} {v : Sec} (h : lowS m v) (hm : m ≤ m') : lowS m' v := ⟨fun x => Nat.le_trans (h.1 x) hm, fun x => Nat.le_trans (h.2 x) hm⟩
theorem last_mem {D : Dk} (h : DkOk D) {j : Nat} (hj : j < D.V.length) : readD D j ∈ ver D j := by
  obtain ⟨h1, _⟩ := ver_ok h hj
  rw [readD, lastS, List.getLastD_eq_getLast?]
  rw [List.getLast?_eq_some_getLast h1]
  exact List.getLast_mem h1
theorem zero_low (m0 : Nat) : lowS m0 zeroS := by
  have hz : ∀ k, hCount (zerosB k) = 0 := fun k => by rw [hCount, zeros_take, numB_zeros]
  have h1 : fstH zeroS = zerosB 64 := rfl
  have h2 : sndH zeroS = zerosB 64 := rfl
  refine ⟨fun h => ?_, fun h => ?_⟩
  · rw [h1] at h; exact absurd h (zero_not _ (hz _))
  · rw [h2] at h; exact absurd h (zero_not _ (hz _))
namespace PlayI
variable {D : Dk} {n cb m0 : Nat}
theorem head (h : PlayI D n cb m0) : ∃ c s, readD D 0 = headB c s ∧ 1 ≤ s ∧ s ≤ c ∧ m0 ≤ c ∧ c ≤ cb := h.heads _ (last_mem h.ok (by have := h.len; omega))
theorem sameV {D' : Dk} (h : PlayI D n cb m0) (hV : D'.V = D.V) (hd : D'.dead = false → D.dead = false) : PlayI D' n cb m0 :=
  ⟨⟨by rw [hV]; exact h.ok.n, by rw [hV]; exact h.ok.ne, by rw [hV]; exact h.ok.sec, by rw [hV]; exact h.ok.short⟩, by rw [hV]; exact h.len, fun v hv => h.two v (by rw [← hV]; exact hv), fun e v hv => h.one (hd e) v (by rw [← hV]; exact hv),
    fun v hv => h.heads v (by rw [← ver_V hV]; exact hv), fun j hj v hv => h.low j hj v (by rw [← ver_V hV]; exact hv)⟩
theorem crash (h : PlayI D n cb m0) (p : List Int) : PlayI (crashD D p) n cb m0 := by
  have hl := h.len
  refine ⟨crash_ok h.ok p, by rw [crash_len]; exact h.len, short_of (crash_short1 h.ok p) (by omega), fun _ => crash_short1 h.ok p, fun v hv => ?_, fun j hj v hv => ?_⟩
  · obtain ⟨s, e, hs, a, ha, b, hb, h1, h2⟩ := crash_ver h.ok p (i := 0) (by omega)
    rw [e, List.mem_singleton] at hv
    subst hv
    obtain ⟨c, s', ea, r1⟩ := h.heads a ha
    obtain ⟨c2, s2, eb, _⟩ := h.heads b hb
    refine ⟨c, s', ?_, r1⟩
    rw [sec_halves hs, sec_halves (head_len c s'), h1, h2, ea, eb, head_snd, head_snd]
  · obtain ⟨s, e, hs, a, ha, b, hb, h1, h2⟩ := crash_ver h.ok p (i := 1 + j) (by omega)
    rw [e, List.mem_singleton] at hv
    subst hv
    exact ⟨fun x => by rw [h1] at x ⊢; exact (h.low j hj a ha).1 x, fun x => by rw [h2] at x ⊢; exact (h.low j hj b hb).2 x⟩
theorem put {cb' m' a : Nat} {R : List Sec} (h : PlayI D n cb m0) (hd : D.dead = false) (hR : secsOk R) (hfit : a + R.length ≤ 1 + n) (hcb : cb ≤ cb') (hok : DkOk (putW D a R).1)
    (hh : a = 0 → ∀ v ∈ R.head?, ∃ c s, v = headB c s ∧ 1 ≤ s ∧ s ≤ c ∧ m0 ≤ c ∧ m' ≤ c ∧ c ≤ cb') (ha : a = 0 ∨ m' = m0) (hm : m0 ≤ m') (hl : ∀ v ∈ R, lowS m0 v ∨ a = 0 ∧ R.length = 1) (hRl : 0 < R.length) :
    ((putW D a R).2 = true ∧ (putW D a R).1.dead = false ∧ PlayI (putW D a R).1 n cb' m' ∧ ∀ j, j < D.V.length → readD (putW D a R).1 j = if a ≤ j ∧ j < a + R.length then R.getD (j - a) zeroS else readD D j) ∨
    ((putW D a R).2 = false ∧ (putW D a R).1.dead = true ∧ PlayI (putW D a R).1 n cb' m0) := by
  have hlen := h.len
  have hRm : ∀ k, k < R.length → R.getD k zeroS ∈ R := fun k hk => by
    rw [List.getD_eq_getElem?_getD, List.getElem?_eq_getElem hk]; exact List.getElem_mem hk
  have hhd : ∀ k, a ≤ k → k < a + R.length → k = 0 → ∃ c s, R.getD (k - a) zeroS = headB c s ∧ 1 ≤ s ∧ s ≤ c ∧ m0 ≤ c ∧ m' ≤ c ∧ c ≤ cb' := fun k h1 h2 h0 => by
    have ha0 : a = 0 := by omega
    obtain ⟨v, R', rfl⟩ := List.exists_cons_of_length_pos hRl
    obtain ⟨c, s, e, hx⟩ := hh ha0 v (by simp)
    exact ⟨c, s, by rw [show k - a = 0 by omega, List.getD_cons_zero]; exact e, hx⟩
  have hlo : ∀ k, a ≤ k → k < a + R.length → 1 ≤ k → lowS m0 (R.getD (k - a) zeroS) := fun k h1 h2 h3 => by
    rcases hl _ (hRm (k - a) (by omega)) with x | ⟨x1, x2⟩
    · exact x
    · omega
  rcases put_cases R a hd (h.one hd) (by omega) with ⟨e1, e2, e3, e4⟩ | ⟨e1, e2, e3⟩
  · refine .inl ⟨e1, e2, ⟨hok, by rw [put_len]; exact hlen, short_of e3 (by omega), fun _ => e3, fun v hv => ?_, fun j hj v hv => ?_⟩, e4⟩
    · rw [ver_one hok e3 (by rw [put_len]; omega), List.mem_singleton] at hv
      subst hv
      rw [e4 0 (by omega)]
      split
      · rename_i hc
        obtain ⟨c, s, e, q1, q2, _, q4, q5⟩ := hhd 0 hc.1 hc.2 rfl
        exact ⟨c, s, e, q1, q2, q4, q5⟩
      · rename_i hc
        obtain ⟨c, s, e, q1, q2, q3, q4⟩ := h.head
        have hm0 : m' = m0 := ha.resolve_left (fun x => hc ⟨by omega, by omega⟩)
        exact ⟨c, s, e, q1, q2, by omega, by omega⟩
    · rw [ver_one hok e3 (by rw [put_len]; omega), List.mem_singleton] at hv
      subst hv
      rw [e4 (1 + j) (by omega)]
      split
      · rename_i hc
        exact (hlo _ hc.1 hc.2 (by omega)).up hm
      · exact (h.low j hj _ (last_mem h.ok (by omega))).up hm
  · have h1 := h.one hd
    refine .inr ⟨e1, e2, ⟨hok, by rw [put_len]; exact hlen, fun v hv => ?_, (fun x => by rw [e2] at x; cases x), fun v hv => ?_, fun j hj v hv => ?_⟩⟩
    · obtain ⟨j, hj⟩ := List.mem_iff_getElem?.1 hv
      have hjl := (List.getElem?_eq_some_iff.1 hj).1
      rw [put_len] at hjl
      have : v = ver (putW D a R).1 j := by rw [ver, List.getD_eq_getElem?_getD, hj]; rfl
      rw [this]
      have := h1.ver hjl
      rcases e3 j with e | ⟨_, _, e⟩
      · rw [e]; omega
      · rw [e, List.length_append, List.length_singleton]; omega
    · rcases e3 0 with e | ⟨k1, k2, e⟩
      · rw [e] at hv
        obtain ⟨c, s, q⟩ := h.heads v hv
        exact ⟨c, s, q.1, q.2.1, q.2.2.1, q.2.2.2.1, Nat.le_trans q.2.2.2.2 hcb⟩
      · rw [e] at hv
        rcases List.mem_append.1 hv with hv | hv
        · obtain ⟨c, s, q⟩ := h.heads v hv
          exact ⟨c, s, q.1, q.2.1, q.2.2.1, q.2.2.2.1, Nat.le_trans q.2.2.2.2 hcb⟩
        · rw [List.mem_singleton.1 hv]
          obtain ⟨c, s, e, q1, q2, q3, _, q5⟩ := hhd 0 k1 k2 rfl
          exact ⟨c, s, e, q1, q2, q3, q5⟩
    · rcases e3 (1 + j) with e | ⟨k1, k2, e⟩
      · rw [e] at hv
        exact h.low j hj v hv
      · rw [e] at hv
        rcases List.mem_append.1 hv with hv | hv
        · exact h.low j hj v hv
        · rw [List.mem_singleton.1 hv]
          exact hlo _ k1 k2 (by omega)
theorem save {c' s' cb' : Nat} (h : PlayI D n cb m0) (h1 : 1 ≤ s') (h2 : s' ≤ c') (h3 : m0 ≤ c') (h4 : c' ≤ cb') (hcb : cb ≤ cb') (hok : DkOk (saveD D c' s')) :
    (saveE D c' s' = true ∧ (saveD D c' s').dead = false ∧ PlayI (saveD D c' s') n cb' c' ∧ ∀ j, j < D.V.length → readD (saveD D c' s') j = if j = 0 then headB c' s' else readD D j) ∨
    (saveE D c' s' = false ∧ (saveD D c' s').dead = true ∧ PlayI (saveD D c' s') n cb' m0) := by
  obtain ⟨e1, e2⟩ := save_put D c' s'
  cases hd : D.dead with
  | true =>
    have hl := h.len
    have hs := (stepD_dead hd).1
    obtain ⟨w1, _⟩ := write_no hs (i := 0) (by omega) (headB c' s')
    have hV : (writeA D 0 (headB c' s')).V = D.V := by
      have hin : inD D ((0 : Nat) : Int) = true := decide_eq_true ⟨by omega, by omega⟩
      show (writeA D ((0 : Nat) : Int) (headB c' s')).V = D.V
      rw [writeA, hin, if_pos rfl, writeD, hs]
      exact stepD_V D
    have hsd : saveD D c' s' = writeA D 0 (headB c' s') := by rw [saveD, hs]; rfl
    refine .inr ⟨by rw [saveE, hs]; rfl, by rw [hsd]; exact w1, ?_⟩
    have hh := h.sameV (D' := saveD D c' s') (by rw [hsd]; exact hV) (fun e => by rw [hsd] at e; rw [show (writeA D 0 (headB c' s')).dead = true from w1] at e; cases e)
    exact ⟨hh.ok, hh.len, hh.two, hh.one, fun v hv => let ⟨c, s, q⟩ := hh.heads v hv; ⟨c, s, q.1, q.2.1, q.2.2.1, q.2.2.2.1, Nat.le_trans q.2.2.2.2 hcb⟩, hh.low⟩
  | false =>
    rw [e1] at hok ⊢
    rw [e2]
    have hR : secsOk [headB c' s'] := fun v hv => by rw [List.mem_singleton.1 hv]; exact head_len _ _
    rcases h.put (cb' := cb') (m' := c') (a := 0) (R := [headB c' s']) hd hR (by simp) hcb hok (fun _ v hv => by
      obtain rfl : headB c' s' = v := by simpa using hv
      exact ⟨c', s', rfl, h1, h2, h3, Nat.le_refl _, h4⟩) (.inl rfl) h3 (fun v hv => .inr ⟨rfl, rfl⟩) (by simp) with ⟨a1, a2, a3, a4⟩ | ⟨a1, a2, a3⟩
    · refine .inl ⟨a1, a2, a3, fun j hj => ?_⟩
      rw [a4 j hj]
      by_cases hj0 : j = 0
      · subst hj0; rw [if_pos (by simp), if_pos rfl]; rfl
      · rw [if_neg (by simp; omega), if_neg hj0]
    · exact .inr ⟨a1, a2, a3⟩
end PlayI
theorem none_told {D : Dk} {n cb m0 s c : Nat} (h : PlayI D n cb m0) (hs : m0 < s) : recsL s c 0 (rowsL n (logB D n) n) = [] := by
  have hl := h.len
  cases hj : joinIs (logB D n) n with
  | false => exact recs_stop hj
  | true =>
    refine recs_bad hj ?_
    rw [okRow, if_neg]
    rintro ⟨_, h2, _⟩
    dsimp only at h2
    obtain ⟨j1, _, _, j4⟩ := join_halves hj
    obtain ⟨g1, _⟩ := good_facts (j4 0 j1)
    have hn0 := (join_facts hj).1
    have hh := (log_half h.ok (n := n) (j := 0) (by omega) hn0).1
    rw [Nat.mul_zero] at hh
    rw [hh] at g1 h2
    have := (h.low 0 hn0 _ (last_mem h.ok (by omega))).1 g1
    omega
theorem new_zero' {n j : Nat} (h : j < n) : readD (newD n) j = zeroS := by
  have hv : ver (newD n) j = [zeroS] := by
    rw [ver, newD, List.getD_eq_getElem?_getD, List.getElem?_replicate, if_pos h]; rfl
  rw [readD, hv]; rfl
theorem play_new {m n : Nat} (hm : m = n + 5) (hok : DkOk (fmtD (newD m) n)) : PlayI (fmtD (newD m) n) n 1 1 ∧ (fmtD (newD m) n).dead = false ∧ ∀ j, j < m → readD (fmtD (newD m) n) j = if j = 0 then headB 1 1 else zeroS := by
  obtain ⟨h1, h2, h3⟩ := fmt_alive (alive_new (n := m) (by omega)) n
  rw [newD_len] at h2 h3
  have hr : ∀ j, j < m → readD (fmtD (newD m) n) j = if j = 0 then headB 1 1 else zeroS := fun j hj => by
    rw [h3 j hj]
    by_cases h0 : j = 0
    · rw [if_pos h0, if_pos h0]
    · rw [if_neg h0, if_neg h0, new_zero' hj]; split <;> rfl
  refine ⟨⟨hok, by rw [h2]; exact hm, short_of h1.short (by omega), fun _ => h1.short, fun v hv => ?_, fun j hj v hv => ?_⟩, h1.dead, hr⟩
  · rw [ver_one hok h1.short (by omega), List.mem_singleton] at hv
    subst hv
    rw [hr 0 (by omega), if_pos rfl]
    exact ⟨1, 1, rfl, by omega, by omega, by omega, by omega⟩
  · rw [ver_one hok h1.short (by omega), List.mem_singleton] at hv
    subst hv
    rw [hr (1 + j) (by omega), if_neg (by omega)]
    exact zero_low 1
end Go.Proofs.YtkkgahgpemepeaaGreat
namespace Go.Proofs.YtkkgahgpemepeaaGreat
open Go Go.RowKit Coup
structure Cls (lo : Nat) (L : List Nat) (w : World) (g2 g5 g8 g9 k g : Nat) (vx vy : Option Addr) : Prop where
  r2 : row w g2 [.int .i64 (k : Int)] 3
  r5 : row w g5 [.pointer (some ⟨g, 0, none⟩)] 24
  r8 : row w g8 [.pointer vx] 28
  r9 : row w g9 [.pointer vy] 38
  m2 : g2 ∈ L
  m5 : g5 ∈ L
  m8 : g8 ∈ L
  m9 : g9 ∈ L
  ge : lo ≤ g2 ∧ lo ≤ g5 ∧ lo ≤ g8 ∧ lo ≤ g9
  ne : g2 ≠ g5 ∧ g2 ≠ g8 ∧ g2 ≠ g9 ∧ g5 ≠ g8 ∧ g5 ≠ g9 ∧ g8 ≠ g9
section
variable {lo : Nat} {L L2 M : List Nat} {w w' : World} {g2 g5 g8 g9 k g : Nat} {vx vy : Option Addr}
theorem Cls.kpd (h : Cls lo L w g2 g5 g8 g9 k g vx vy) (k' : Kp M w w') (hM : ∀ b ∈ M, b ∉ L) : Cls lo L w' g2 g5 g8 g9 k g vx vy :=
  ⟨h.r2.kpd k' fun hm => hM _ hm h.m2, h.r5.kpd k' fun hm => hM _ hm h.m5, h.r8.kpd k' fun hm => hM _ hm h.m8, h.r9.kpd k' fun hm => hM _ hm h.m9, h.m2, h.m5, h.m8, h.m9, h.ge, h.ne⟩
theorem Cls.new (h : Cls lo L w g2 g5 g8 g9 k g vx vy) (hb : Below w.heap.size w w') : Cls lo L w' g2 g5 g8 g9 k g vx vy := h.kpd (M := []) (Kp.of_below hb) (by simp)
theorem Cls.ll (h : Cls lo L w g2 g5 g8 g9 k g vx vy) (k' : LoL lo L2 w w') (h2 : ∀ b ∈ L, b ∈ L2) : Cls lo L w' g2 g5 g8 g9 k g vx vy := h.kpd k'.kp fun b hb hm => outL_no h2 b hb (.inr hm)
theorem Cls.weak (h : Cls lo L w g2 g5 g8 g9 k g vx vy) (h2 : ∀ b ∈ L, b ∈ L2) : Cls lo L2 w g2 g5 g8 g9 k g vx vy := ⟨h.r2, h.r5, h.r8, h.r9, h2 _ h.m2, h2 _ h.m5, h2 _ h.m8, h2 _ h.m9, h.ge, h.ne⟩
theorem Two.newcs {D : Dk} {C : List Nat} (h : Two (DZ g D) None lo L w) (hb : Below w.heap.size w w') (hC : ∀ b ∈ C, w.heap.size ≤ b ∧ b < w'.heap.size) : Two (DZ g D) None lo (C ++ L) w' := by
  obtain ⟨⟨B, _, h1, rfl, h3, h4⟩, h5, h6⟩ := h.new hb
  obtain ⟨⟨B0, _, q1, _, q3, _⟩, _, q6⟩ := h
  exact ⟨by
    obtain ⟨⟨B, _, h1, rfl, h3, h4⟩, h5, h6⟩ := (show Two (DZ g D) None lo L w from ⟨⟨B0, [], q1, rfl, fun b hb => ⟨(q3 b hb).1, by simp, (q3 b hb).2.2⟩, fun b hb => nomatch hb⟩, by assumption, q6⟩)
    exact ⟨B, [], Thing.kpd (M := []) h1 (Kp.of_below hb) (by simp), rfl, fun b hbm => ⟨(h3 b hbm).1, by simp, fun hm => (List.mem_append.1 hm).elim (fun hc => absurd (Thing.lt h1 b hbm) (Nat.not_lt.2 (hC b hc).1)) (h3 b hbm).2.2⟩, fun b hb => nomatch hb⟩, h5, fun b hm => (List.mem_append.1 hm).elim (fun hc => (hC b hc).2) (h6 b)⟩
theorem openPlay {D : Dk} {n c s : Nat} {S : List Rec} (h : Two (DZ g D) None lo L w) (he : openE D n = 0) (hsh : shortD D 90000) (hC : hdC (readD D 0) = c) (hS : hdS (readD D 0) = s) (hR : recsOf D (headG D n) = S) :
    Calls Tryz.prog 7 [.pointer (some ⟨g, 0, none⟩), .int .i64 (n : Int)].toArray w (Ret fun v w' => (∃ (vx pa : Option Addr) (ka ca : Nat) (e : Int) (L2 : List Nat), v = .tuple #[.pointer vx, .slice pa ka ca, .int .i64 e] ∧ Two (DZ g (saveD D (c + 1) s)) None lo L2 w' ∧ (∀ b ∈ L, b ∈ L2) ∧
      ((e = 10 ∧ saveE D (c + 1) s = false ∧ vx = none ∧ L2 = L) ∨ (e = 0 ∧ saveE D (c + 1) s = true ∧ ∃ x, vx = some ⟨x, 0, none⟩ ∧ ka = S.length ∧ (∃ C, AllZ pa S w' C ∧ L2 = C ++ L ∧ ∀ b ∈ C, b ∉ L) ∧ LgAt g x None lo L2 (saveD D (c + 1) s) ⟨c + 1, s, n, S.length, atS S, false⟩ w'))) ∧ LoL lo L w w') := by
  refine (openYes h n he hsh).to ?_
  rintro v w' ⟨ok, D2, C, s', S', hok, hD2, hC2, hS2, hR2, hLL, hh⟩
  rw [hC] at hC2
  rw [hS] at hS2
  rw [hR] at hR2
  subst hC2 hS2 hR2 hD2
  rcases hh with ⟨rfl, rfl, h2⟩ | ⟨rfl, x, pa, ca, rfl, _, hG⟩
  · exact ⟨⟨none, none, 0, 0, 10, L, rfl, h2, fun b hb => hb, .inl ⟨rfl, hok, rfl, rfl⟩⟩, hLL⟩
  · obtain ⟨C1, hz, hG2, hni⟩ := lg_out2 hG
    exact ⟨⟨some ⟨x, 0, none⟩, pa, S.length, ca, 0, C1 ++ L, rfl, hG2.fst, fun b hb => List.mem_append_right _ hb, .inr ⟨rfl, hok, x, rfl, rfl, ⟨C1, hz, rfl, hni⟩, hG2⟩⟩, hLL⟩
end
def gP (n c s : Nat) (S : List Rec) : Lg := ⟨c, s, n, S.length, atS S, false⟩
structure OpenOut (lo : Nat) (L : List Nat) (D : Dk) (g2 g5 g8 g9 k g cb : Nat) (w : World) (v : Value) (w' : World) : Prop where
  v : v = .bool true
  ex : ∃ D' m' L' Lw vx y c s S, (∀ b ∈ L, b ∈ L') ∧ PlayI D' k (cb + 1) m' ∧ Two (DZ g D') None lo L' w' ∧ Cls lo L' w' g2 g5 g8 g9 k g vx (some ⟨y, 0, none⟩) ∧ WAt lo Lw w' y c s k (atS S) S ∧ (∀ b ∈ Lw, b ∈ L' ∧ b ∉ L) ∧
    (vx = none ∨ ∃ x, vx = some ⟨x, 0, none⟩ ∧ LgAt g x None lo L' D' (gP k c s S) w' ∧ D'.dead = false ∧ readD D' 0 = headB c s ∧ m' = c ∧ S.length ≤ atS S ∧ atS S ≤ k ∧ c ≤ cb + 1 ∧ 1 ≤ s ∧ s ≤ c)
  ll : LoL lo [] w w'
theorem recs_atl {s c : Nat} : ∀ (f k m : Nat) {X : List UInt8}, X.length = m * 128 → m ≤ f → (recsL s c k (rowsL f X m)).length ≤ atS (recsL s c k (rowsL f X m))
  | 0, k, m, X, _, _ => Nat.zero_le _
  | f + 1, k, m, X, hl, hf => by
    cases hj : joinIs X m with
    | false => rw [rowsL_zero hj]; exact Nat.zero_le _
    | true =>
      obtain ⟨h0, _, h3⟩ := join_facts hj
      obtain ⟨h4, h5⟩ := h3 hl
      rw [rowsL, if_pos hj]
      cases ho : okRow s c k ⟨hCount (halfAt X 0), hNum (halfAt X 0), joinB X⟩ with
      | none => rw [recsL_none ho]; exact Nat.zero_le _
      | some r =>
        rw [recsL_some ho]
        have ih := recs_atl f (k + 1) (m - needN (joinB X).length) (s := s) (c := c) (X := X.drop (128 * needN (joinB X).length)) (by rw [List.length_drop, hl]; omega) (by omega)
        have hr : ofR (joinB X) = some r := by
          unfold okRow at ho
          split at ho
          · exact ho
          · cases ho
        have hb := ofR_len hr
        have : atS (r :: recsL s c (k + 1) (rowsL f (X.drop (128 * needN (joinB X).length)) (m - needN (joinB X).length))) = needN (516 * r.length) + atS (recsL s c (k + 1) (rowsL f (X.drop (128 * needN (joinB X).length)) (m - needN (joinB X).length))) := by simp [atS]
        rw [this, ← hb, List.length_cons]; omega
set_option maxRecDepth 20000 in
set_option maxHeartbeats 4000000 in
theorem open24 {lo : Nat} {L : List Nat} {D : Dk} {g2 g5 g8 g9 k g cb m0 : Nat} {vx vy : Option Addr} {w : World} (h : Two (DZ g D) None lo L w) (hP : PlayI D k cb m0) (hcl : Cls lo L w g2 g5 g8 g9 k g vx vy) (hcb : cb + 100 ≤ 4611686018427387904) (h4 : 4 ≤ k) (hk : k ≤ 200) :
    Calls Tryz.prog 24 [.pointer (some ⟨g5, 0, none⟩), .pointer (some ⟨g2, 0, none⟩), .pointer (some ⟨g9, 0, none⟩), .pointer (some ⟨g8, 0, none⟩)].toArray w (Ret fun v w' => OpenOut lo L D g2 g5 g8 g9 k g cb w v w') := by
  have hml : maxLen = 9223372036854775807 := by decide
  have hLL := LoL.refl lo [] w
  have hlo := h.lo
  have hLt := h.lt
  obtain ⟨cn, sn, hrd0, hs1, hsc, hmc, hccb⟩ := hP.head
  have hlen := hP.len
  have hDk := hP.ok
  obtain ⟨e1, e2, e3⟩ := open_head (D := D) (c := cn) (s := sn) (n := (k : Int)) (decide_eq_true (by omega)) hrd0 hs1 hsc (by omega)
  have hdi : hdIs (readD D 0) = true := by rw [hrd0]; exact head_is hs1 hsc (by omega)
  have hHG : headG D (k : Int) = ⟨cn, sn, k, 0, 0, false⟩ := by rw [headG, Int.toNat_natCast, e2, e3]
  have hRec : recsOf D (headG D (k : Int)) = recsL sn cn 0 (rowsL k (logB D k) k) := by rw [recsOf, hHG]
  obtain ⟨S, hS⟩ : ∃ S, recsOf D (headG D (k : Int)) = S := ⟨_, rfl⟩
  have hrf := recs_fit (s := sn) (c := cn) k 0 k (X := logB D k) (by rw [logB_len hDk (by omega)]; omega) (Nat.le_refl _)
  have hrl := recs_num (s := sn) (c := cn) k 0 k (X := logB D k) (by rw [logB_len hDk (by omega)]; omega) (Nat.le_refl _)
  have hrk := recs_ok (s := sn) (c := cn) k 0 k (X := logB D k)
  have hlat : ∀ S : List Rec, True := fun _ => trivial
  rw [← hRec, hS] at hrf hrl hrk
  have hSat : S.length ≤ atS S := by rw [← hS, hRec]; exact recs_atl k 0 k (by rw [logB_len hDk (by omega)]; omega) (Nat.le_refl _)
  have hs31 := fun w' L' (h : Two (DZ g D) None lo L' w') => sectors31 h (k + 5) (by omega) (by omega)
  rw [show ((k + 5 : Nat) : Int) = (k : Int) + 5 by omega] at hs31
  have hso1 := secD_ok hDk (n := k + 1) (by omega)
  rw [secD_cons] at hso1
  have hrs0 := fun w' q ca (hca : k + 5 ≤ ca) => rsays13 (readD D 0) (secL D k) hso1 k (secL_len D k) (by omega) q (k + 1) ca rfl (by omega) w'
  rw [← logB_eq, e2, e3, hdi, ← hRec, hS] at hrs0
  have hrs : ∀ w' q ca (hca : k + 5 ≤ ca) (hs : SlAt w' q (k + 1) 128 (bv (readD D 0 :: secL D k).flatten)), Calls Tryz.prog 13 [.slice q (k + 1) ca].toArray w' (Ret fun v w2 => (∃ y pr cr C, v = .tuple #[.pointer (some ⟨y, 0, none⟩), .bool true] ∧ SaysAt w2 y cn sn k pr cr S C ∧ w'.heap.size ≤ y ∧ ∀ b ∈ C, w'.heap.size ≤ b) ∧ Below w'.heap.size w' w2) := fun w' q ca hca hs =>
    (hrs0 w' q ca hca hs).to fun v w2 ⟨⟨vy, e, hv, hh⟩, hb⟩ => ⟨by
      rcases hh with ⟨_, h, _⟩ | ⟨rfl, _, y, pr, cr, C, rfl, hh⟩
      · cases h
      · exact ⟨y, pr, cr, C, hv, hh⟩, hb⟩
  have hsub1 : ∀ w' ga oa ca b0, OwnG w' b0 45 128 ga oa (k + 5) ca (bv (secD D (k + 5)).flatten) → SlAt w' (some ⟨ga, oa, none⟩) (k + 1) 128 (bv (readD D 0 :: secL D k).flatten) := fun w' ga oa ca b0 ho => by
    have h1 := (ownsAt.sl ho).sub 0 (k + 1) (by omega)
    rw [Nat.zero_mul, Nat.add_zero, List.drop_zero, ← bv_take, show (k + 1) * 128 = 128 * (k + 1) by omega, ← (flat_take (secD_ok hDk (by omega)) (k + 1)).1, secD_take D (by omega), secD_cons] at h1
    exact h1
  have hop := fun w' L' (h : Two (DZ g D) None lo L' w') => openPlay h e1 (short_of hP.two (by omega)) e2 e3 hS
  have hsv := fun hok => hP.save (c' := cn + 1) (s' := sn) (cb' := cb + 1) hs1 (by omega) (by omega) (by omega) (by omega) hok
  have hsl := save_lenD D (cn + 1) sn
  obtain ⟨D2, hD2⟩ : ∃ D2, saveD D (cn + 1) sn = D2 := ⟨_, rfl⟩
  rw [hD2] at hsv hsl
  simp only [hD2] at hop
  clear hrs0 hlat
  obtain ⟨h2, h5, h8, h9, m2, m5, m8, m9, ⟨q2, q5, q8, q9⟩, ⟨n1, n2, n3, n5, n6, n7⟩⟩ := hcl
  have lt2 := hLt _ m2
  have lt5 := hLt _ m5
  have lt8 := hLt _ m8
  have lt9 := hLt _ m9
  have hs31b := fun w' L' (h : Two (DZ g D2) None lo L' w') => sectors31 h (k + 5) (by omega) (by omega)
  rw [show ((k + 5 : Nat) : Int) = (k : Int) + 5 by omega] at hs31b
  have hhd := fun w' => rhead28 (cn + 1) sn (by omega) (by omega) w'
  have hhl := headB_len (cn + 1) sn
  have hfin := fun (h : ∀ j, j < k + 5 → readD D2 j = if j = 0 then headB (cn + 1) sn else readD D j) => secD_head (m := k + 5) (by omega) h
  have hfl1 := flat_len (secD_ok hDk (n := k + 5) (by omega))
  rw [secD_len] at hfl1
  have e9 : g9 ∉ ([] : List Nat) := by simp
  have e8 : g8 ∉ ([] : List Nat) := by simp
  have hD := h
  refine calls_W (fn := Tryz.f24) (rs := [.tmp 4]) (n := 81) Tryz.func24 rfl rfl Tryz.ntmps24 (by kernel_rfl) rfl ?_
  refine W_seq ?_
  refine W_region ?_
  refine WR_val rfl (rn_assign) ?_
  refine WR_nil ?_
  refine thenN ?_
  refine W_seq ?_
  refine W_region ?_
  refine WR_val rfl (rn_load rfl (Ld.row1 h5 (by kernel_rfl) rfl)) ?_
  refine WR_val rfl (rn_load rfl (Ld.row1 h2 (by kernel_rfl) rfl)) ?_
  refine WR_val rfl (rn_add rfl rfl (Coup.w64 (by omega))) ?_
  refine WR_ent rfl (rn_call (by kernel_rfl) rfl) (hs31 w _ hD) ?_
  rintro _ w12 ⟨hu, hb12⟩
  obtain ⟨ga, oa, ca, rfl, hga1, hga2, hca⟩ := hu.form' (by omega)
  replace hD := hD.newc hb12 hga1 hga2
  have hown : OwnG _ 0 45 128 ga oa (k + 5) ca _ := hu.mono (Nat.zero_le _)
  replace hLL := hLL.new hb12
  replace h2 := h2.new hb12
  replace h5 := h5.new hb12
  replace h8 := h8.new hb12
  replace h9 := h9.new hb12
  refine WR_val rfl (rn_assign) ?_
  refine WR_nil ?_
  refine thenN ?_
  refine W_seq ?_
  refine W_region ?_
  refine WR_val rfl (rn_move) ?_
  refine WR_val rfl (rn_load rfl (Ld.row1 h2 (by kernel_rfl) rfl)) ?_
  refine WR_val rfl (rn_add rfl rfl (Coup.w64 (by omega))) ?_
  refine WR_val rfl (rn_sliceUp (e := 45) (sz := 128) ((k + 1)) (by kernel_rfl) rfl ⟨_, _, rfl, by omega⟩ (by omega)) ?_
  have hD12 := hD
  refine WR_ent rfl (rn_call (by kernel_rfl) rfl) (hrs w12 _ ca hca (hsub1 _ _ _ _ _ hown)) ?_
  rintro _ w18 ⟨⟨y, pr, cr, C, rfl, hsa, hyw, hCw⟩, hb18⟩
  replace hLL := hLL.new hb18
  replace hD := hD.new hb18
  replace h2 := h2.new hb18
  replace h5 := h5.new hb18
  replace h8 := h8.new hb18
  replace h9 := h9.new hb18
  replace hown := hown.new hb18
  have hszS := hb18.size
  have hCs : ∀ b ∈ y :: C, w18.heap.size ≥ b + 1 ∧ _ ≤ b := fun b hb => ((List.mem_cons.1 hb).elim (fun e => by rw [e]; exact ⟨hsa.row.lt, hyw⟩) fun hb => ⟨Thing.lt hsa.all b hb, hCw b hb⟩)
  have hD3 := Two.newcs (C := y :: C) hD12 hb18 (fun b hb => ⟨(hCs b hb).2, (hCs b hb).1⟩)
  have hylt := hsa.row.lt
  have hy := hsa.row
  unfold rlV at hy
  have hz := hsa.all
  have hyC := hsa.niC
  have hg12 := hb12.size
  have hK1 := KpB.refl [g9] w18
  refine WR_val rfl (rn_move) ?_
  refine WR_val rfl (rn_extract rfl rfl) ?_
  refine WR_val rfl (rn_extract rfl rfl) ?_
  refine WR_sk rfl (sk_store1 rfl rfl rfl rfl h9 (by kernel_rfl) (by first | (simp only [List.length_replicate]; omega) | (simp only [iv_length]; omega) | (simp only [bv_length, List.length_set]; omega) | simp) (fun w901 h9 ho901 => ?_))
  replace hLL := hLL.only ho901 (by first | omega | (right; exact ⟨by omega, by assumption⟩))
  replace h2 := h2.only ho901 (by omega)
  replace h5 := h5.only ho901 (by omega)
  replace h8 := h8.only ho901 (by omega)
  replace hown := hown.only ho901 (by omega)
  replace hK1 := hK1.only ho901 (by simp)
  replace hy := hy.only ho901 (by omega)
  refine WR_nil ?_
  refine thenN ?_
  refine W_seq ?_
  refine W_seq ?_
  refine W_region ?_
  refine WR_val rfl (rn_load rfl (Ld.row1 h9 (by kernel_rfl) rfl)) ?_
  refine WR_val rfl (rn_eqlP1 (by kernel_rfl) rfl rfl) ?_
  refine WR_nil ?_
  refine thenN ?_
  refine W_fb rfl (rfl) ?_
  refine W_skip ?_
  refine thenN ?_
  refine W_seq ?_
  refine W_region ?_
  refine WR_val rfl (rn_load rfl (Ld.row1 h5 (by kernel_rfl) rfl)) ?_
  refine WR_val rfl (rn_load rfl (Ld.row1 h2 (by kernel_rfl) rfl)) ?_
  have hobt : ∃ L2, (y :: C) ++ (ga :: L) = L2 := ⟨_, rfl⟩
  obtain ⟨L2, hL2⟩ := hobt
  have hL2w : ∀ b ∈ y :: C, b ∈ L2 := fun b hb => by rw [← hL2]; exact List.mem_append_left _ hb
  have hL2g : ∀ b ∈ ga :: L, b ∈ L2 := fun b hb => by rw [← hL2]; exact List.mem_append_right _ hb
  have hL2L : ∀ b ∈ L, b ∈ L2 := fun b hb => hL2g b (List.mem_cons_of_mem _ hb)
  rw [hL2] at hD3
  replace hD3 := hD3.kpd hK1.k (fun b hb => by rw [List.mem_singleton.1 hb]; exact .inr (hL2L _ m9))
  replace hz := Thing.kpd hz hK1.k (fun b hb hm => by have := (hCw b hb); rw [List.mem_singleton.1 hm] at this; omega)
  replace h9 : row w901 g9 [.pointer (some ⟨y, 0, none⟩)] 38 := h9
  have hCL : ∀ b ∈ y :: C, b ∉ L := fun b hb hm => by have h1 := hLt b hm; have h3 := (hCs b hb).2; omega
  have hW : WAt lo (y :: C) w901 y cn sn k (atS S) S := ⟨⟨pr, cr, C, hy, hz.l (fun b hb => hb), hyC, fun b hb => List.mem_cons_of_mem _ hb⟩, List.mem_cons_self .., by omega⟩
  have hcl1 : Cls lo L2 w901 g2 g5 g8 g9 k g vx (some ⟨y, 0, none⟩) := ⟨h2, h5, h8, h9, hL2L _ m2, hL2L _ m5, hL2L _ m8, hL2L _ m9, ⟨q2, q5, q8, q9⟩, ⟨n1, n2, n3, n5, n6, n7⟩⟩
  have hgaL2 := hL2g ga (List.mem_cons_self ..)
  refine WR_ent rfl (rn_call (by kernel_rfl) rfl) (hop w901 L2 hD3) ?_
  rintro _ w26 ⟨⟨vx2, pa, ka, cx, e, L3, rfl, hD4, hsub3, hcase⟩, hb26⟩
  replace hW := hW.ll hb26 hL2w
  replace hcl1 := hcl1.ll hb26 (fun b hb => hb)
  replace hown := hown.kpd hb26.kp (notLL (.inr hgaL2))
  replace hLL := hLL.ll hb26 (by first | (intro b hb; exact hb) | (intro b hb; simp [hb]; done) | simp)
  refine WR_val rfl (rn_move) ?_
  refine WR_val rfl (rn_extract rfl rfl) ?_
  refine WR_val rfl (rn_extract rfl rfl) ?_
  refine WR_val rfl (rn_extract rfl rfl) ?_
  refine WR_val rfl (rn_assign) ?_
  refine WR_val rfl (rn_assign) ?_
  refine WR_val rfl (rn_assign) ?_
  refine WR_nil ?_
  refine thenN ?_
  refine W_seq ?_
  refine W_seq ?_
  refine W_region ?_
  refine WR_val rfl (rn_move) ?_
  refine WR_val rfl (rn_neq rfl rfl) ?_
  refine WR_nil ?_
  refine thenN ?_
  refine W_ifp rfl (fun hne => ?_) (fun hne => ?_)
  ·
    refine W_seq ?_
    have hcs : e = 10 ∧ saveE D (cn + 1) sn = false ∧ vx2 = none ∧ L3 = L2 := hcase.elim id fun h => absurd h.1 hne
    obtain ⟨rfl, hsE, rfl, rfl⟩ := hcs
    have hsv2 := (hsv (tOk hD4).1).resolve_left (fun h => by rw [hsE] at h; cases h.1)
    obtain ⟨_, hd2, hP2⟩ := hsv2
    obtain ⟨h2, h5, h8, h9, p2, p5, p8, p9, _, _⟩ := hcl1
    have hK2 := KpB.refl [g8] w26
    refine W_region ?_
    refine WR_sk rfl (sk_store1 rfl rfl rfl rfl h8 (by kernel_rfl) (by first | (simp only [List.length_replicate]; omega) | (simp only [iv_length]; omega) | (simp only [bv_length, List.length_set]; omega) | simp) (fun w902 h8 ho902 => ?_))
    replace hLL := hLL.only ho902 (by first | omega | (right; exact ⟨by omega, by assumption⟩))
    replace hK2 := hK2.only ho902 (by simp)
    replace h2 := h2.only ho902 (by omega)
    replace h5 := h5.only ho902 (by omega)
    replace h9 := h9.only ho902 (by omega)
    replace h8 : row w902 g8 [.pointer none] 28 := h8
    replace hD4 := hD4.kpd hK2.k (fun b hb => by rw [List.mem_singleton.1 hb]; exact .inr p8)
    replace hW := hW.kpd hK2.k (fun b hb hx => by
      rw [List.mem_singleton.1 hb] at hx
      exact hx.elim (fun h => by omega) (fun h => hCL _ h m8))
    refine WR_nil ?_
    refine thenN ?_
    refine W_seq ?_
    refine W_region ?_
    refine WR_val rfl (rn_move) ?_
    refine WR_val rfl (rn_eql rfl rfl) ?_
    refine WR_val rfl (rn_move) ?_
    refine WR_tp 34 rfl (rfl) ?_
    refine WR_yes rfl ?_
    refine WR_val rfl (rn_load rfl (Ld.row1 h5 (by kernel_rfl) rfl)) ?_
    refine WR_yes rfl ?_
    refine WR_ent rfl (rn_call (by kernel_rfl) rfl) (tDead hD4) ?_
    rintro _ _ ⟨rfl, rfl⟩
    refine WR_val rfl (rn_pick_t rfl) ?_
    refine WR_val rfl (rn_assign) ?_
    refine WR_nil ?_
    refine thenN ?_
    refine W_ret ?_
    refine thenR ?_
    refine ret_ret [_] ⟨rfl, trivial⟩ ?_
    exact ⟨congrArg Value.bool hd2, ⟨D2, m0, L3, y :: C, none, y, cn, sn, S, hL2L, hP2, hD4, ⟨h2, h5, h8, h9, p2, p5, p8, p9, ⟨q2, q5, q8, q9⟩, ⟨n1, n2, n3, n5, n6, n7⟩⟩, hW, fun b hb => ⟨hL2w b hb, hCL b hb⟩, .inl rfl⟩, hLL⟩
  ·
    have hobt := hcase.resolve_left (fun h => hne (by rw [h.1]; decide))
    obtain ⟨he, hsE, x, rfl, hka, ⟨C1, hz1, hL3e, hni1⟩, hG⟩ := hobt
    subst he
    have hobt := (hsv (tOk hG.two).1).resolve_right (fun h => by rw [hsE] at h; cases h.1)
    obtain ⟨_, hd2, hP2, hrd2⟩ := hobt
    rw [hlen] at hrd2
    have hfin2 := hfin hrd2
    have hrd20 := hrd2 0 (by omega)
    rw [if_pos rfl] at hrd20
    have hobt : ∃ H, headB (cn + 1) sn = H := ⟨_, rfl⟩
    obtain ⟨H, hH⟩ := hobt
    rw [hH] at hfin2 hhd hhl
    have hhb : (bv H).length = 128 := by rw [bv_length]; exact hhl
    clear hfin hrd2
    obtain ⟨h2, h5, h8, h9, p2, p5, p8, p9, _, _⟩ := hcl1
    obtain ⟨pw, cw, Lw, hy, hAw, hyLw, hLw⟩ := hW.ex
    unfold rlC at hy
    have hyL2 := hL2w y (List.mem_cons_self ..)
    have hyw2 := (hCs y (List.mem_cons_self ..)).2
    have hK2 := KpB.refl [g8, y, ga] w26
    refine W_skip ?_
    refine thenN ?_
    refine W_seq ?_
    refine W_region ?_
    refine WR_val rfl (rn_load rfl (Ld.row1 h9 (by kernel_rfl) rfl)) ?_
    refine WR_val rfl (rn_nilCheckP rfl) ?_
    refine WR_val rfl (rn_fieldAddr (off := 0) (by kernel_rfl) rfl) ?_
    refine WR_val rfl (rn_load rfl (Ld.row1 hy (by kernel_rfl) rfl)) ?_
    refine WR_val rfl (rn_add rfl rfl (wu64 (by omega))) ?_
    refine WR_val rfl (rn_nilCheckP rfl) ?_
    refine WR_val rfl (rn_fieldAddr (off := 0) (by kernel_rfl) rfl) ?_
    refine WR_sk rfl (sk_store1 rfl rfl rfl rfl hy (by kernel_rfl) (by first | (simp only [List.length_replicate]; omega) | (simp only [iv_length]; omega) | (simp only [bv_length, List.length_set]; omega) | simp) (fun w903 hy ho903 => ?_))
    replace hLL := hLL.only ho903 (by first | omega | (right; exact ⟨by omega, by assumption⟩))
    replace hK2 := hK2.only ho903 (by simp)
    replace h2 := h2.only ho903 (by omega)
    replace h5 := h5.only ho903 (by omega)
    replace h8 := h8.only ho903 (by omega)
    replace h9 := h9.only ho903 (by omega)
    replace hown := hown.only ho903 (by omega)
    replace hy : row w903 y [.int .u64 ((cn : Int) + 1), .int .u64 (sn : Int), .int .i64 (k : Int), .slice pw S.length cw, .int .i64 ((atS S : Nat) : Int)] 43 := hy
    rw [show (cn : Int) + 1 = ((cn + 1 : Nat) : Int) by omega] at hy
    refine WR_nil ?_
    refine thenN ?_
    refine W_seq ?_
    refine W_draw' [ga] (by kernel_rfl) ?_
    intro w904 hb904 hS904
    replace hLL := hLL.new hb904
    replace hK2 := hK2.new hb904
    replace h2 := h2.new hb904
    replace h5 := h5.new hb904
    replace h8 := h8.new hb904
    replace h9 := h9.new hb904
    replace hy := hy.new hb904
    replace hown := hown.new hb904
    have hLL_d904 := hLL
    have hK2_d904 := hK2
    have h2_d904 := h2
    have h5_d904 := h5
    have h8_d904 := h8
    have h9_d904 := h9
    have hy_d904 := hy
    have hown_d904 := hown
    refine WA_take 0 (by kernel_rfl) rfl (fun _ _ => rn_move) ?_
    refine WA_take 1 (by kernel_rfl) rfl (fun w' hS' => rn_load rfl (Ld.row1 (h9_d904.kpd hS' (by first | (simp; done) | (simp; omega) | (simp [*]; done) | exact notLL (Or.inl (by omega)) | exact notLL (Or.inr (by simp)) | exact fun g hm => Nat.le_trans (by omega) (inLL hm).1 | (intro b o e; cases e; exact notLL (Or.inl (by omega))) | (intro b hm; have := (hu.lt b (Option.mem_toList.1 hm)).1; omega) | (intro b o e; cases e; intro hm; have := (hu.lt _ (Option.mem_toList.1 hm)).1; omega))) (by kernel_rfl) rfl)) ?_
    refine WA_take 2 (by kernel_rfl) rfl (fun _ _ => rn_nilCheckP rfl) ?_
    refine WA_take 3 (by kernel_rfl) rfl (fun _ _ => rn_fieldAddr (off := 0) (by kernel_rfl) rfl) ?_
    refine WA_take 4 (by kernel_rfl) rfl (fun w' hS' => rn_load rfl (Ld.row1 (hy_d904.kpd hS' (by first | (simp; done) | (simp; omega) | (simp [*]; done) | exact notLL (Or.inl (by omega)) | exact notLL (Or.inr (by simp)) | exact fun g hm => Nat.le_trans (by omega) (inLL hm).1 | (intro b o e; cases e; exact notLL (Or.inl (by omega))) | (intro b hm; have := (hu.lt b (Option.mem_toList.1 hm)).1; omega) | (intro b o e; cases e; intro hm; have := (hu.lt _ (Option.mem_toList.1 hm)).1; omega))) (by kernel_rfl) rfl)) ?_
    refine WA_take 5 (by kernel_rfl) rfl (fun w' hS' => rn_load rfl (Ld.row1 (h9_d904.kpd hS' (by first | (simp; done) | (simp; omega) | (simp [*]; done) | exact notLL (Or.inl (by omega)) | exact notLL (Or.inr (by simp)) | exact fun g hm => Nat.le_trans (by omega) (inLL hm).1 | (intro b o e; cases e; exact notLL (Or.inl (by omega))) | (intro b hm; have := (hu.lt b (Option.mem_toList.1 hm)).1; omega) | (intro b o e; cases e; intro hm; have := (hu.lt _ (Option.mem_toList.1 hm)).1; omega))) (by kernel_rfl) rfl)) ?_
    refine WA_take 6 (by kernel_rfl) rfl (fun _ _ => rn_nilCheckP rfl) ?_
    refine WA_take 7 (by kernel_rfl) rfl (fun _ _ => rn_fieldAddr (off := 1) (by kernel_rfl) rfl) ?_
    refine WA_take 8 (by kernel_rfl) rfl (fun w' hS' => rn_load rfl (Ld.row1 (hy_d904.kpd hS' (by first | (simp; done) | (simp; omega) | (simp [*]; done) | exact notLL (Or.inl (by omega)) | exact notLL (Or.inr (by simp)) | exact fun g hm => Nat.le_trans (by omega) (inLL hm).1 | (intro b o e; cases e; exact notLL (Or.inl (by omega))) | (intro b hm; have := (hu.lt b (Option.mem_toList.1 hm)).1; omega) | (intro b o e; cases e; intro hm; have := (hu.lt _ (Option.mem_toList.1 hm)).1; omega))) (by kernel_rfl) rfl)) ?_
    refine WA_one 9 (by kernel_rfl) ?_
    refine WO_ent rfl rfl (rn_call (by kernel_rfl) rfl) (hhd w904) ?_
    rintro _ w54 ⟨rfl, hb54⟩
    have hS905 := hS904.add0 hb54
    refine ⟨hS905, ?_⟩
    replace hLL := hLL.new hb54
    replace hK2 := hK2.new hb54
    replace h2 := h2.new hb54
    replace h5 := h5.new hb54
    replace h8 := h8.new hb54
    replace h9 := h9.new hb54
    replace hy := hy.new hb54
    replace hown := hown.new hb54
    refine WA_take 10 (by kernel_rfl) rfl (fun _ _ => rn_indexSl (e := 45) (sz := 128) (by kernel_rfl) rfl rfl (0) (by omega) (by omega)) ?_
    refine WA_one 11 (by kernel_rfl) ?_
    refine WO_sk rfl rfl (sk_storeO (bv H) (0 * 128) hown rfl rfl (by rw [hhb]; kernel_rfl) (by simp only [bv_length]; omega) (bv_one _) (fun w907 hown ho907 => ?_))
    have hS906 := hS905.add1 ho907 (by first | (left; omega) | (right; simp; done) | (right; simp; omega))
    refine ⟨hS906, ?_⟩
    replace hLL := hLL.only ho907 (by first | omega | (right; exact ⟨by omega, by assumption⟩))
    replace hK2 := hK2.only ho907 (by simp)
    replace h2 := h2.only ho907 (by omega)
    replace h5 := h5.only ho907 (by omega)
    replace h8 := h8.only ho907 (by omega)
    replace h9 := h9.only ho907 (by omega)
    replace hy := hy.only ho907 (by omega)
    rw [flat_set (secD_ok hDk (by omega)) (by rw [secD_len]; omega) hhl, hfin2] at hown
    refine WA_done (by kernel_rfl) ?_
    refine thenN ?_
    refine W_seq ?_
    refine W_region ?_
    refine WR_val rfl (rn_move) ?_
    refine WR_sk rfl (sk_store1 rfl rfl rfl rfl h8 (by kernel_rfl) (by first | (simp only [List.length_replicate]; omega) | (simp only [iv_length]; omega) | (simp only [bv_length, List.length_set]; omega) | simp) (fun w908 h8 ho908 => ?_))
    replace hLL := hLL.only ho908 (by first | omega | (right; exact ⟨by omega, by assumption⟩))
    replace hK2 := hK2.only ho908 (by simp)
    replace h2 := h2.only ho908 (by omega)
    replace h5 := h5.only ho908 (by omega)
    replace h9 := h9.only ho908 (by omega)
    replace hy := hy.only ho908 (by omega)
    replace hown := hown.only ho908 (by omega)
    refine WR_nil ?_
    refine thenN ?_
    refine W_seq ?_
    refine W_region ?_
    replace h8 : row w908 g8 [.pointer (some ⟨x, 0, none⟩)] 28 := h8
    replace hG := hG.kpd hK2.k (fun b hb => by
      simp only [List.mem_cons, List.not_mem_nil, or_false] at hb
      rcases hb with rfl | rfl | rfl
      · exact .inr (hsub3 _ p8)
      · exact .inr (hsub3 _ hyL2)
      · exact .inr (hsub3 _ hgaL2))
    replace hz1 := Thing.kpd hz1 hK2.k (fun b hb hm => by
      simp only [List.mem_cons, List.not_mem_nil, or_false] at hm
      rcases hm with rfl | rfl | rfl
      · exact hni1 _ hb p8
      · exact hni1 _ hb hyL2
      · exact hni1 _ hb hgaL2)
    replace hAw := hAw.kpd hK2.k (fun b hb hx => by
      simp only [List.mem_cons, List.not_mem_nil, or_false] at hb
      rcases hb with rfl | rfl | rfl
      · exact hx.elim (fun h => by omega) fun h => hCL _ (hLw _ h) m8
      · exact hx.elim (fun h => by omega) hyLw
      · exact hx.elim (fun h => by omega) fun h => by have := (hCs _ (hLw _ h)).2; omega)
    have hW2 : WAt lo (y :: C) w908 y (cn + 1) sn k (atS S) S := ⟨⟨pw, cw, Lw, hy, hAw, hyLw, hLw⟩, List.mem_cons_self .., by omega⟩
    have har1 := AllZ.r hz1
    have har2 := hAw.toR
    refine WR_val rfl (rn_move) ?_
    refine WR_val rfl (rn_load rfl (Ld.row1 h9 (by kernel_rfl) rfl)) ?_
    refine WR_val rfl (rn_nilCheckP rfl) ?_
    refine WR_val rfl (rn_fieldAddr (off := 3) (by kernel_rfl) rfl) ?_
    refine WR_val rfl (rn_load rfl (Ld.row1 hy (by kernel_rfl) rfl)) ?_
    refine WR_ent rfl (rn_call (by kernel_rfl) rfl) (sameAll37 S S hrk hrk pa pw ka S.length cx cw w908 har1 hka.symm har2 rfl (by omega)) ?_
    rintro _ w62 ⟨⟨bb, rfl, hbb⟩, hb62⟩
    replace hLL := hLL.new hb62
    replace h2 := h2.new hb62
    replace h5 := h5.new hb62
    replace h8 := h8.new hb62
    replace h9 := h9.new hb62
    replace hy := hy.new hb62
    replace hown := hown.new hb62
    replace hG := hG.new hb62
    replace hW2 := hW2.new hb62
    replace har1 := har1.new hb62
    replace har2 := har2.new hb62
    refine WR_val rfl (rn_move) ?_
    refine WR_tb 63 rfl ((hbb.2 rfl)) ?_
    refine WR_yes rfl ?_
    refine WR_val rfl (rn_load rfl (Ld.row1 h8 (by kernel_rfl) rfl)) ?_
    refine WR_yes rfl ?_
    refine WR_val rfl (rn_load rfl (Ld.row1 h9 (by kernel_rfl) rfl)) ?_
    refine WR_yes rfl ?_
    refine WR_ent rfl (rn_call (by kernel_rfl) rfl) (looks26 hG (hW2.weak fun b hb ↦ hsub3 b (hL2w b hb)) rfl rfl rfl rfl rfl hrf (by omega)) ?_
    rintro _ w66 ⟨rfl, hb66⟩
    replace hLL := hLL.new hb66
    replace h2 := h2.new hb66
    replace h5 := h5.new hb66
    replace h8 := h8.new hb66
    replace h9 := h9.new hb66
    replace hy := hy.new hb66
    replace hown := hown.new hb66
    replace hG := hG.new hb66
    replace hW2 := hW2.new hb66
    replace har1 := har1.new hb66
    replace har2 := har2.new hb66
    refine WR_val rfl (rn_pick_t rfl) ?_
    refine WR_val rfl (rn_move) ?_
    refine WR_tb 68 rfl (rfl) ?_
    refine WR_yes rfl ?_
    refine WR_val rfl (rn_load rfl (Ld.row1 h8 (by kernel_rfl) rfl)) ?_
    refine WR_yes rfl ?_
    refine WR_ent rfl (rn_call (by kernel_rfl) rfl) (dead23 hG) ?_
    rintro _ _ ⟨rfl, rfl⟩
    refine WR_yes rfl ?_
    refine WR_val rfl (rn_not rfl) ?_
    refine WR_val rfl (rn_pick_t rfl) ?_
    refine WR_val rfl (rn_move) ?_
    refine WR_tnb 73 rfl (rfl) ?_
    refine WR_yes rfl ?_
    refine WR_val rfl (rn_load rfl (Ld.row1 h5 (by kernel_rfl) rfl)) ?_
    refine WR_yes rfl ?_
    refine WR_val rfl (rn_load rfl (Ld.row1 h2 (by kernel_rfl) rfl)) ?_
    refine WR_yes rfl ?_
    refine WR_val rfl (rn_add rfl rfl (Coup.w64 (by omega))) ?_
    refine WR_yes rfl ?_
    refine WR_ent rfl (rn_call (by kernel_rfl) rfl) (hs31b w66 _ hG.fst) ?_
    rintro _ w77 ⟨hu2, hb77⟩
    replace hLL := hLL.new hb77
    replace h2 := h2.new hb77
    replace h5 := h5.new hb77
    replace h8 := h8.new hb77
    replace h9 := h9.new hb77
    replace hy := hy.new hb77
    replace hown := hown.new hb77
    replace hG := hG.new hb77
    replace hW2 := hW2.new hb77
    replace har1 := har1.new hb77
    replace har2 := har2.new hb77
    refine WR_yes rfl ?_
    refine WR_val rfl (rn_move) ?_
    refine WR_yes rfl ?_
    have hs2 := hu2.form
    obtain ⟨pu2, cu2, rfl⟩ := hs2
    have hown2 := ownsAt.sl hown
    have hDk2 := (tOk hG.two).1
    refine WR_ent rfl (rn_call (by kernel_rfl) rfl) (same33 (secD D2 (k + 5)) (secD D2 (k + 5)) (secD_ok hDk2 (by omega)) (secD_ok hDk2 (by omega)) pu2 _ (k + 5) (k + 5) cu2 ca w77 hu2.sl hown2 (secD_len _ _) (secD_len _ _) (by omega)) ?_
    rintro _ w79 ⟨⟨bb2, rfl, hbb2⟩, hb79⟩
    replace hLL := hLL.new hb79
    replace h2 := h2.new hb79
    replace h5 := h5.new hb79
    replace h8 := h8.new hb79
    replace h9 := h9.new hb79
    replace hy := hy.new hb79
    replace hown := hown.new hb79
    replace hG := hG.new hb79
    replace hW2 := hW2.new hb79
    replace har1 := har1.new hb79
    replace har2 := har2.new hb79
    replace hu2 := hu2.new hb79
    refine WR_val rfl (rn_pick_t rfl) ?_
    refine WR_val rfl (rn_assign) ?_
    refine WR_nil ?_
    refine thenN ?_
    refine W_ret ?_
    refine ret_ret [_] ⟨rfl, trivial⟩ ?_
    rw [hH] at hrd20
    exact ⟨congrArg Value.bool (hbb2.2 rfl), ⟨D2, cn + 1, L3, y :: C, some ⟨x, 0, none⟩, y, cn + 1, sn, S, fun b hb => hsub3 b (hL2L b hb), hP2, hG.fst, ⟨h2, h5, h8, h9, hsub3 _ p2, hsub3 _ p5, hsub3 _ p8, hsub3 _ p9, ⟨q2, q5, q8, q9⟩, ⟨n1, n2, n3, n5, n6, n7⟩⟩, hW2, fun b hb => ⟨hsub3 b (hL2w b hb), hCL b hb⟩, .inr ⟨x, rfl, hG, hd2, by rw [hH]; exact hrd20, rfl, hSat, hrf, by omega, hs1, by omega⟩⟩, hLL⟩
end Go.Proofs.YtkkgahgpemepeaaGreat
namespace Go.Proofs.YtkkgahgpemepeaaGreat
open Go Go.RowKit Coup
def LgSt (D : Dk) (G : Lg) (k c s cb m : Nat) (S : List Rec) : Prop := G.dead = true ∨ (G = gP k c s S ∧ D.dead = false ∧ m = c ∧ S.length ≤ atS S ∧ atS S ≤ k ∧ 1 ≤ s ∧ s ≤ c ∧ c ≤ cb)
theorem row_low {c nn m : Nat} {G : Lg} {r : Rec} (hr : chsOk r) (hm : mayR r = true) (hmt : mayT ((G.count : Nat) : Int) ((G.num : Nat) : Int) = true) (hc : G.count ≤ m) : ∀ v ∈ rowW G r, lowS m v := fun v hv => by
  obtain ⟨hRf, hRo⟩ := rowW_flat G hr
  have hRl := rowW_len G r
  obtain ⟨i, hi⟩ := List.mem_iff_getElem?.1 hv
  have hil := (List.getElem?_eq_some_iff.1 hi).1
  obtain ⟨h1, h2⟩ := flat_half hRo hi
  rw [hRf] at h1 h2
  have hsh := rec_short hr hm
  have hN : needN (recB r).length = needN (516 * r.length) := by rw [recB_len hr]
  refine ⟨fun x => ?_, fun x => ?_⟩
  · rw [← h1] at x ⊢
    obtain ⟨_, q1, _⟩ := row_halves hmt hsh (by rw [hN]; omega) x
    omega
  · rw [← h2] at x ⊢
    obtain ⟨_, q1, _⟩ := row_halves hmt hsh (by rw [hN]; omega) x
    omega
theorem comAll {g x lo k c s cb m y : Nat} {L Lw Lr Lk : List Nat} {D : Dk} {G : Lg} {w : World} {S : List Rec} {r : Rec} {q : Option Addr} {cq : Nat} (hP : PlayI D k cb m) (hG : LgAt g x None lo L D G w) (hLk : ∀ b ∈ Lk, b ∈ L) (hyk : y ∉ Lk) (hw : WAt lo Lw w y c s k (atS S) S) (hLw : ∀ b ∈ Lw, b ∈ L) (hrL : RecL lo Lr w q r) (hLr : ∀ b ∈ Lr, b ∈ L) (hyr : y ∉ Lr)
    (hr : chsOk r) (hr2 : r.length ≤ 1000000) (hst : LgSt D G k c s cb m S) (hcb : cb ≤ 4611686018427387904) (h4 : 4 ≤ k) (hk : k ≤ 200) :
    Calls Tryz.prog 27 [.pointer (some ⟨g, 0, none⟩), .pointer (some ⟨x, 0, none⟩), .pointer (some ⟨y, 0, none⟩), .slice q r.length cq].toArray w (Ret fun v w' => ∃ D' G' S', ComOut g x lo D' G' y c s k (atS S') S' L Lw Lr Lk w v w' ∧ PlayI D' k cb m ∧ LgSt D' G' k c s cb m S') := by
  have hlen := hP.len
  rcases hst with hd | ⟨rfl, hdD, rfl, hSa, hak, hs1, hsc, hccb⟩
  · exact (com_dead hG hd hLk hyk hw hLw hrL hLr (by omega) (by omega)).to fun v w' h => ⟨D, G, S, h, hP, .inl hd⟩
  · have hok : LgOk D (gP k m s S) := ⟨hs1, hsc, by show m ≤ _; omega, h4, by show k ≤ 4000; omega, hak, hSa, by show 1 + k ≤ _; omega⟩
    have hsh : shortD D 80000 := short_of hP.two (by omega)
    have hst0 : LgSt D (gP k m s S) k m s cb m S := .inr ⟨rfl, hdD, rfl, hSa, hak, hs1, hsc, hccb⟩
    cases hm : mayR r with
    | false => exact (com_no2 hG hLk hyk hw hLw hrL hLr (by omega) (by omega) hok hsh hr hr2 rfl hm rfl rfl rfl rfl rfl hak (by omega)).to fun v w' h => ⟨D, _, S, h, hP, hst0⟩
    | true =>
      by_cases hfit : k < atS S + needN (516 * r.length)
      · exact (com_no8 hG hLk hyk hw hLw hrL hLr (by omega) (by omega) hok hsh hr hr2 rfl hm hfit rfl rfl rfl rfl rfl hak (by omega)).to fun v w' h => ⟨D, _, S, h, hP, hst0⟩
      · have hRl := rowW_len (gP k m s S) r
        obtain ⟨_, hRo⟩ := rowW_flat (gP k m s S) hr
        have hpos := (needW_pos (of_decide_eq_true (Bool.and_eq_true_iff.1 hm).1)).2
        have hmt : mayT (((gP k m s S).count : Nat) : Int) (((gP k m s S).num : Nat) : Int) = true := may_of (k := S.length) hs1 hsc (Nat.le_refl m) (by omega) (by omega)
        have hlo := row_low (nn := 0) (c := 0) hr hm hmt (Nat.le_refl _)
        have hput := fun hk2 => hP.put (cb' := cb) (m' := m) (a := 1 + (gP k m s S).at_) (R := rowW (gP k m s S) r) hdD hRo (by rw [hRl]; show 1 + atS S + _ ≤ _; omega) (Nat.le_refl _) hk2 (fun h => by omega) (.inr rfl) (Nat.le_refl _) (fun v hv => .inl (hlo v hv)) (by rw [hRl]; exact hpos)
        rcases put_good (rowW (gP k m s S) r) (1 + (gP k m s S).at_) hdD (by rw [hRl]; show 1 + atS S + _ ≤ _; omega) with ⟨e1, e2, _⟩ | ⟨e1, e2, _⟩
        · refine (com_ok hG hLk hyk hw hLw hrL hLr hyr (by omega) (by omega) hok hsh hr hr2 rfl hdD hm hfit rfl rfl rfl rfl rfl hak (by omega) e1).to fun v w' h => ?_
          obtain ⟨L', Lw', hG', hrest⟩ := h.ex
          have hPn := (hput (tOk hG'.two).1).resolve_right (fun hx => by rw [e1] at hx; cases hx.1)
          have hG2 : ({ gP k m s S with at_ := (gP k m s S).at_ + (rowW (gP k m s S) r).length, num := (gP k m s S).num + 1 } : Lg) = gP k m s (S ++ [r]) := by
            rw [hRl]
            simp [gP, atS_snoc]
          have hat := atS_snoc S r
          rw [hG2, ← hat] at h
          exact ⟨_, _, S ++ [r], h, hPn.2.2.1, .inr ⟨rfl, e2, rfl, by rw [List.length_append, List.length_singleton, hat]; omega, by omega, hs1, hsc, hccb⟩⟩
        · refine (com_bad hG hLk hyk hw hLw hrL hLr (by omega) (by omega) hok hsh hr hr2 rfl hm hfit rfl rfl hak (by omega) e1 e2).to fun v w' h => ?_
          obtain ⟨L', Lw', hG', hrest⟩ := h.ex
          have hPn := (hput (tOk hG'.two).1).resolve_left (fun hx => by rw [e1] at hx; cases hx.1)
          exact ⟨_, _, S, h, hPn.2.2, .inl rfl⟩
end Go.Proofs.YtkkgahgpemepeaaGreat
namespace Go.Proofs.YtkkgahgpemepeaaGreat
open Go Go.RowKit Coup
theorem rn_eqlPn {P : Program} {ρ : Env} {w : World} {d : Option Nat} {ty : TypeId} {pos : String} {af : Array Edge} {gd : Option (Nat × Bool)} {t t' : Nat} {x y : Operand} {p : Option Addr} (ht : ptrT P t = true) (hx : ev ρ x = .pointer p) (hy : ev ρ y = .pointer none) :
    (execOp (ev ρ) ⟨d, .binOp .eql t x y t', ty, pos, af, gd⟩).run P w = .ok (.value (.bool (decide (p = none)))) w := by
  cases p with
  | none => exact rn_eqlP0 ht hx hy
  | some a => exact rn_eqlP1 ht hx hy
def StP (lo g2 g5 g8 g9 k g cb : Nat) (w : World) : Prop := ∃ D m L Lw vx y c s S, PlayI D k cb m ∧ Two (DZ g D) None lo L w ∧ Cls lo L w g2 g5 g8 g9 k g vx (some ⟨y, 0, none⟩) ∧ WAt lo Lw w y c s k (atS S) S ∧ (∀ b ∈ Lw, b ∈ L ∧ b ∉ [g2, g5, g8, g9]) ∧
  (vx = none ∨ ∃ x G, vx = some ⟨x, 0, none⟩ ∧ LgAt g x None lo L D G w ∧ LgSt D G k c s cb m S)
theorem fuse_V2 (D : Dk) (k : Int) : (fuseA D k).V = D.V ∧ (fuseA D k).dead = D.dead := by
  unfold fuseA
  split <;> exact ⟨rfl, rfl⟩
def StW (lo g2 g5 g8 g9 k g cb : Nat) (w : World) : Prop := ∃ D m L vx vy, PlayI D k cb m ∧ Two (DZ g D) None lo L w ∧ Cls lo L w g2 g5 g8 g9 k g vx vy
set_option maxRecDepth 20000 in
theorem trunc18' {g x lo : Nat} {L : List Nat} {D : Dk} {G : Lg} {w : World} (h : LgAt g x None lo L D G w) (hd : G.dead = true) :
    Calls Tryz.prog 29 [.pointer (some ⟨x, 0, none⟩)].toArray w (Ret fun v w' => v = .int .i64 10 ∧ LoL lo L w w' ∧ LgAt g x None lo L D G w') := by
  have hrd := ready45 h
  rw [hd] at hrd
  have hLL := LoL.refl lo L w
  have hG := h
  refine calls_W (fn := Tryz.f29) (rs := [.tmp 2]) (n := 33) Tryz.func29 rfl rfl Tryz.ntmps29 (by kernel_rfl) rfl ?_
  refine W_seq ?_
  refine W_region ?_
  refine WR_val rfl (rn_assign) ?_
  refine WR_nil ?_
  refine thenN ?_
  refine W_seq ?_
  refine W_seq ?_
  refine W_region ?_
  refine WR_val rfl (rn_move) ?_
  refine WR_ent rfl (rn_call (by kernel_rfl) rfl) (hrd) ?_
  rintro _ _ ⟨rfl, rfl⟩
  refine WR_val rfl (rn_assign) ?_
  refine WR_nil ?_
  refine thenN ?_
  refine W_seq ?_
  refine W_region ?_
  refine WR_val rfl (rn_move) ?_
  refine WR_val rfl (rn_neq rfl rfl) ?_
  refine WR_nil ?_
  refine thenN ?_
  refine W_tp rfl ((by simp)) ?_
  refine W_seq ?_
  refine W_region ?_
  refine WR_val rfl (rn_move) ?_
  refine WR_val rfl (rn_assign) ?_
  refine WR_nil ?_
  refine thenN ?_
  refine W_ret ?_
  refine thenR ?_
  refine ret_ret [_] ⟨rfl, trivial⟩ ?_
  exact ⟨rfl, hLL, hG⟩
section
variable {lo g2 g5 g8 g9 k g cb : Nat} {w w' : World}
theorem StP.new (h : StP lo g2 g5 g8 g9 k g cb w) (hb : Below w.heap.size w w') : StP lo g2 g5 g8 g9 k g cb w' := by
  obtain ⟨D, m, L, Lw, vx, y, c, s, S, h1, h2, h3, h4, h5, h6⟩ := h
  exact ⟨D, m, L, Lw, vx, y, c, s, S, h1, h2.new hb, h3.new hb, h4.new hb, h5, h6.imp id fun ⟨x, G, e, h7, h8⟩ => ⟨x, G, e, h7.new hb, h8⟩⟩
theorem PlayI.up {D : Dk} {n m0 cb' : Nat} (h : PlayI D n cb m0) (hc : cb ≤ cb') : PlayI D n cb' m0 :=
  ⟨h.ok, h.len, h.two, h.one, fun v hv => let ⟨c, s, q⟩ := h.heads v hv; ⟨c, s, q.1, q.2.1, q.2.2.1, q.2.2.2.1, Nat.le_trans q.2.2.2.2 hc⟩, h.low⟩
theorem LgSt.up {D : Dk} {G : Lg} {c s m cb' : Nat} {S : List Rec} (h : LgSt D G k c s cb m S) (hc : cb ≤ cb') : LgSt D G k c s cb' m S :=
  h.imp id fun ⟨a1, a2, a3, a4, a5, a6, a7, a8⟩ => ⟨a1, a2, a3, a4, a5, a6, a7, Nat.le_trans a8 hc⟩
theorem StP.up {cb' : Nat} (h : StP lo g2 g5 g8 g9 k g cb w) (hc : cb ≤ cb') : StP lo g2 g5 g8 g9 k g cb' w := by
  obtain ⟨D, m, L, Lw, vx, y, c, s, S, h1, h2, h3, h4, h5, h6⟩ := h
  exact ⟨D, m, L, Lw, vx, y, c, s, S, h1.up hc, h2, h3, h4, h5, h6.imp id fun ⟨x, G, e, h7, h8⟩ => ⟨x, G, e, h7, h8.up hc⟩⟩
theorem OpenOut.st {L : List Nat} {D : Dk} {v : Value} (h : OpenOut lo L D g2 g5 g8 g9 k g cb w v w') (hL : ∀ b ∈ [g2, g5, g8, g9], b ∈ L) : StP lo g2 g5 g8 g9 k g (cb + 1) w' := by
  obtain ⟨D', m', L', Lw, vx, y, c, s, S, q1, q2, q3, q4, q5, q6, q7⟩ := h.ex
  refine ⟨D', m', L', Lw, vx, y, c, s, S, q2, q3, q4, q5, fun b hb => ⟨(q6 b hb).1, fun hm => (q6 b hb).2 (hL b hm)⟩, q7.imp id ?_⟩
  rintro ⟨x, e, hG, a1, a2, a3, a4, a5, a6, a7, a8⟩
  exact ⟨x, _, e, hG, .inr ⟨rfl, a1, a3, a4, a5, a7, a8, a6⟩⟩
theorem cls_in {lo : Nat} {L : List Nat} {w : World} {g2 g5 g8 g9 k g : Nat} {vx vy : Option Addr} (h : Cls lo L w g2 g5 g8 g9 k g vx vy) : ∀ b ∈ [g2, g5, g8, g9], b ∈ L := fun b hb => by
  simp only [List.mem_cons, List.not_mem_nil, or_false] at hb
  rcases hb with rfl | rfl | rfl | rfl
  · exact h.m2
  · exact h.m5
  · exact h.m8
  · exact h.m9
theorem cls_own {lo : Nat} {L : List Nat} {w : World} {g2 g5 g8 g9 k g : Nat} {vx vy : Option Addr} (h : Cls lo L w g2 g5 g8 g9 k g vx vy) : Cls lo [g2, g5, g8, g9] w g2 g5 g8 g9 k g vx vy :=
  ⟨h.r2, h.r5, h.r8, h.r9, by simp, by simp, by simp, by simp, h.ge, h.ne⟩
theorem StP.toW (h : StP lo g2 g5 g8 g9 k g cb w) : StW lo g2 g5 g8 g9 k g cb w :=
  let ⟨D, m, L, Lw, vx, y, c, s, S, h1, h2, h3, _⟩ := h; ⟨D, m, L, vx, _, h1, h2, h3⟩
theorem StW.open_ (h : StW lo g2 g5 g8 g9 k g cb w) (hcb : cb + 100 ≤ 4611686018427387904) (h4 : 4 ≤ k) (hk : k ≤ 200) :
    Calls Tryz.prog 24 [.pointer (some ⟨g5, 0, none⟩), .pointer (some ⟨g2, 0, none⟩), .pointer (some ⟨g9, 0, none⟩), .pointer (some ⟨g8, 0, none⟩)].toArray w (Ret fun v w' => v = .bool true ∧ StP lo g2 g5 g8 g9 k g (cb + 1) w' ∧ LoL lo [] w w') := by
  obtain ⟨D, m, L, vx, vy, h1, h2, h3⟩ := h
  exact (open24 h2 h1 h3 hcb h4 hk).to fun v w' ho => ⟨ho.v, ho.st (cls_in h3), ho.ll⟩
theorem StP.fuse (h : StP lo g2 g5 g8 g9 k g cb w) (n : Int) (hn : n ≤ 9223372036854775807) :
    Calls Tryz.prog 30 [.pointer (some ⟨g, 0, none⟩), .int .i64 n].toArray w (Ret fun v w' => (∃ e : Int, v = .int .i64 e) ∧ StP lo g2 g5 g8 g9 k g cb w' ∧ LoL lo [] w w') := by
  obtain ⟨D, m, L, Lw, vx, y, c, s, S, hP, hD, hcl, hW, hLw, hx⟩ := h
  have hV := fuse_V2 D n
  have hP2 : PlayI (fuseA D n) k cb m := hP.sameV hV.1 (fun e => by rw [hV.2] at e; exact e)
  rcases hx with rfl | ⟨x, G, rfl, hG, hls⟩
  · exact (tFuse hD n hn).to fun v w' ⟨h1, h2, h3⟩ => ⟨⟨_, h1⟩, ⟨_, m, L, Lw, none, y, c, s, S, hP2, h2, hcl.ll h3 (fun b hb => hb), hW.ll h3 (fun b hb => (hLw b hb).1), hLw, .inl rfl⟩, h3.weak (Nat.le_refl _) (by simp)⟩
  · refine (tFuse hG.two n hn).to fun v w' ⟨h1, h2, h3⟩ => ⟨⟨_, h1⟩, ⟨_, m, L, Lw, some ⟨x, 0, none⟩, y, c, s, S, hP2, h2.weak (fun b hb => List.mem_cons_of_mem _ hb), hcl.ll h3 (fun b hb => List.mem_cons_of_mem _ hb), hW.ll h3 (fun b hb => List.mem_cons_of_mem _ (hLw b hb).1), hLw, .inr ⟨x, G, rfl, ⟨h2, hG.rowx.kpd h3.kp (notLL (.inr (List.mem_cons_self ..))), hG.ge, hG.ni⟩, hls.imp id fun ⟨a1, a2, a3⟩ => ⟨a1, by rw [hV.2]; exact a2, a3⟩⟩⟩, h3.weak (Nat.le_refl _) (by simp)⟩
theorem StP.crash (h : StP lo g2 g5 g8 g9 k g cb w) (pp : Option Addr) (np cp : Nat) (picks : List Int) (hpk : SlAt w pp np 1 (iv picks)) (hpkb : 0 < np → ∀ b o, pp = some ⟨b, o, none⟩ → b < lo) :
    Calls Tryz.prog 31 [.pointer (some ⟨g, 0, none⟩), .slice pp np cp].toArray w (Ret fun v w' => v = .int .i64 0 ∧ StW lo g2 g5 g8 g9 k g cb w' ∧ LoL lo [] w w') := by
  obtain ⟨D, m, L, Lw, vx, y, c, s, S, hP, hD, hcl, hW, hLw, hx⟩ := h
  exact (tCrash hD pp np cp picks hpk fun h0 b o e => .inl (hpkb h0 b o e)).to fun v w' ⟨h1, h2, h3⟩ => ⟨h1, ⟨_, m, L, vx, _, hP.crash picks, h2, hcl.ll h3 (fun b hb => hb)⟩, h3.weak (Nat.le_refl _) (by simp)⟩
theorem truncPlay {x c s m : Nat} {L : List Nat} {D : Dk} {G : Lg} {S : List Rec} (hP : PlayI D k cb m) (h : LgAt g x None lo L D G w) (hst : LgSt D G k c s cb m S) (hcb : cb + 100 ≤ 4611686018427387904) :
    Calls Tryz.prog 29 [.pointer (some ⟨x, 0, none⟩)].toArray w (Ret fun v w' => ∃ (e : Int) (D' : Dk) (G' : Lg) (m' : Nat), v = .int .i64 e ∧ LoL lo L w w' ∧ LgAt g x None lo L D' G' w' ∧ PlayI D' k (cb + 1) m' ∧
      ((e = 0 ∧ G.dead = false ∧ G' = gP k (c + 1) (c + 1) [] ∧ D'.dead = false ∧ m' = c + 1 ∧ c ≤ cb ∧ recsOf D' (headG D' (k : Int)) = [] ∧ readD D' 0 = headB (c + 1) (c + 1)) ∨ (e = 10 ∧ G'.dead = true ∧ (D'.dead = true ∨ G.dead = true)))) := by
  have hlen := hP.len
  rcases hst with hd | ⟨rfl, hdD, rfl, hSa, hak, hs1, hsc, hccb⟩
  · refine (trunc18' h hd).to ?_
    rintro v w' ⟨hv, hLL, hG⟩
    exact ⟨10, D, G, m, hv, hLL, hG, hP.up (Nat.le_succ _), .inr ⟨rfl, hd, .inr hd⟩⟩
  · refine (trunc18 h (by show m ≤ _; omega) (short_of hP.two (by omega))).to ?_
    rintro v w' ⟨e, hv, hLL, hh⟩
    have hsv := fun hok => hP.save (c' := m + 1) (s' := m + 1) (cb' := cb + 1) (by omega) (Nat.le_refl _) (by omega) (by omega) (by omega) hok
    rcases hh with ⟨h, _⟩ | ⟨_, h, _⟩ | ⟨_, _, h1, rfl, hG⟩ | ⟨_, _, h1, rfl, hG⟩
    · cases h
    · rw [show (gP k m s S).count = m from rfl] at h; omega
    · rw [show (gP k m s S).count = m from rfl] at h1 hG
      obtain ⟨_, e2, e3⟩ := (hsv (tOk hG.two).1).resolve_left (fun h => by rw [h1] at h; cases h.1)
      exact ⟨10, _, _, m, hv, hLL, hG, e3, .inr ⟨rfl, rfl, .inl e2⟩⟩
    · rw [show (gP k m s S).count = m from rfl] at h1 hG
      obtain ⟨_, e2, e3, e4⟩ := (hsv (tOk hG.two).1).resolve_right (fun h => by rw [h1] at h; cases h.1)
      have hr0 := e4 0 (by omega)
      rw [if_pos rfl] at hr0
      obtain ⟨b1, b2⟩ := head_back (c := m + 1) (s := m + 1) (by omega) (by omega)
      refine ⟨0, _, _, m + 1, hv, hLL, hG, e3, .inl ⟨rfl, rfl, rfl, e2, rfl, hccb, ?_, hr0⟩⟩
      have hlow : PlayI (saveD D (m + 1) (m + 1)) k (cb + 1) m := ⟨e3.ok, e3.len, e3.two, e3.one, fun v hv => let ⟨c, s, q⟩ := e3.heads v hv; ⟨c, s, q.1, q.2.1, q.2.2.1, Nat.le_trans (Nat.le_succ _) q.2.2.2.1, q.2.2.2.2⟩, fun j hj v hv => by
        have hone := ver_one e3.ok (e3.one e2) (j := 1 + j) (by have := e3.len; omega)
        rw [hone, List.mem_singleton] at hv
        subst hv
        rw [e4 (1 + j) (by omega), if_neg (by omega)]
        exact hP.low j hj _ (last_mem hP.ok (by omega))⟩
      rw [recsOf, headG, Int.toNat_natCast, hr0, b1, b2]
      show recsL (m + 1) (m + 1) 0 (rowsL k (logB _ k) k) = []
      exact none_told hlow (by omega)
end
end Go.Proofs.YtkkgahgpemepeaaGreat
namespace Go.Proofs.YtkkgahgpemepeaaGreat
open Go Go.RowKit Coup
theorem comSt {lo g2 g5 g8 g9 k g cb x y m c s : Nat} {L Lw : List Nat} {D : Dk} {G : Lg} {S : List Rec} {w0 w : World} {r : Rec} {q : Option Addr} {cq : Nat} (hP : PlayI D k cb m) (hG : LgAt g x None lo L D G w0) (hcl : Cls lo L w0 g2 g5 g8 g9 k g (some ⟨x, 0, none⟩) (some ⟨y, 0, none⟩)) (hW : WAt lo Lw w0 y c s k (atS S) S) (hLw : ∀ b ∈ Lw, b ∈ L ∧ b ∉ [g2, g5, g8, g9]) (hls : LgSt D G k c s cb m S)
    (hb : Below w0.heap.size w0 w) (hu : ownsAt w w0.heap.size 112 513 (.slice q r.length cq) r.length (chsV r)) (hr : chsOk r) (hr2 : r.length ≤ 1000000) (hcb : cb ≤ 4611686018427387904) (h4 : 4 ≤ k) (hk : k ≤ 200) :
    Calls Tryz.prog 27 [.pointer (some ⟨g, 0, none⟩), .pointer (some ⟨x, 0, none⟩), .pointer (some ⟨y, 0, none⟩), .slice q r.length cq].toArray w (Ret fun v w' => v = .bool true ∧ StP lo g2 g5 g8 g9 k g cb w' ∧ LoL lo [g2, g5, g8, g9] w w') := by
  have hLt : ∀ b ∈ L, b < w0.heap.size := fun b hb => hG.two.lt b (List.mem_cons_of_mem _ hb)
  have hub := fun b hb => (hu.lt b hb).1
  have hG2 := hG.newv hb hu (Nat.le_refl _)
  have hin := cls_in hcl
  have hyk : y ∉ [g2, g5, g8, g9] := (hLw y hW.inL).2
  have hrL : RecL lo (Value.slice q r.length cq).ownBlock.toList w q r := ⟨hu.sl, by have := own_shel (lo := lo) (L := []) hu; rwa [List.append_nil] at this⟩
  refine (comAll hP hG2 (Lk := [g2, g5, g8, g9]) (fun b hb => List.mem_append_right _ (hin b hb)) hyk (hW.new hb) (fun b hb => List.mem_append_right _ (hLw b hb).1) hrL (fun b hb => List.mem_append_left _ hb) (fun hm => by
    have h1 := hub y (Option.mem_toList.1 hm)
    have h2 := hLt y (hLw y hW.inL).1
    omega) hr hr2 hls hcb h4 hk).to ?_
  rintro v w' ⟨D', G', S', hc, hP', hls'⟩
  obtain ⟨L', Lw', hG', hW', hL', hLw'⟩ := hc.ex
  have hcl2 := ((cls_own (hcl.new hb)).ll hc.ll (fun b hb => hb)).weak (L2 := L') (fun b hb => hL' b (List.mem_append_right _ (hin b hb)))
  refine ⟨hc.v, ⟨D', m, L', Lw', some ⟨x, 0, none⟩, y, c, s, S', hP', hG'.fst, hcl2, hW', fun b hbm => ⟨(hLw' b hbm).1, fun hx => ?_⟩, .inr ⟨x, G', rfl, hG', hls'⟩⟩, hc.ll⟩
  have hbl := hLt b (hin b hx)
  have hsz := hb.size
  rcases (hLw' b hbm).2 with h | h | h
  · exact (hLw b h).2 hx
  · have := hub b (Option.mem_toList.1 h); omega
  · omega
theorem first_secs {m : Nat} {D0 : Dk} {H : Sec} (h : ∀ j, j < m → readD D0 j = if j = 0 then H else zeroS) : (lastsD (newD m)).set 0 H = secD D0 m := by
  have hl : (lastsD (newD m)).length = m := by rw [lastsD, List.length_map, newD_len]
  refine List.ext_getElem? fun j => ?_
  by_cases hj : j < m
  · rw [List.getElem?_set, secD_get D0 hj, h j hj]
    by_cases h0 : 0 = j
    · subst h0; rw [if_pos rfl, if_pos rfl, if_pos (by omega)]
    · rw [if_neg h0, if_neg fun e => h0 e.symm, lastsD, newD, List.map_replicate, List.getElem?_replicate, if_pos hj]; rfl
  · rw [List.getElem?_eq_none (by rw [List.length_set]; omega), List.getElem?_eq_none (by rw [secD_len]; omega)]
theorem saysNone {D : Dk} {k c cb m : Nat} (hP : PlayI D k cb m) (hrd : readD D 0 = headB (c + 1) (c + 1)) (hr : recsOf D (headG D (k : Int)) = []) (hc : c + 1 ≤ 4611686018427387904) (hk : k ≤ 200) (w : World) (b0 : Nat) (q : Option Addr) (ca : Nat) (h : ownsAt w b0 45 128 (.slice q (k + 1) ca) (k + 1) (bv (secD D (k + 1)).flatten)) (hca : k + 1 ≤ ca) :
    Calls Tryz.prog 13 [.slice q (k + 1) ca].toArray w (Ret fun v w2 => (∃ y pr cr, v = .tuple #[.pointer (some ⟨y, 0, none⟩), .bool true] ∧ row w2 y [.int .u64 ((c + 1 : Nat) : Int), .int .u64 ((c + 1 : Nat) : Int), .int .i64 (k : Int), .slice pr 0 cr, .int .i64 0] 43) ∧ Below w.heap.size w w2) := by
  have hDk := hP.ok
  have hlen := hP.len
  obtain ⟨e2, e3⟩ := head_back (c := c + 1) (s := c + 1) (by omega) (by omega)
  rw [← hrd] at e2 e3
  have hdi : hdIs (readD D 0) = true := by rw [hrd]; exact head_is (by omega) (Nat.le_refl _) hc
  have hHG : headG D (k : Int) = ⟨c + 1, c + 1, k, 0, 0, false⟩ := by rw [headG, Int.toNat_natCast, e2, e3]
  have hRec : recsOf D (headG D (k : Int)) = recsL (c + 1) (c + 1) 0 (rowsL k (logB D k) k) := by rw [recsOf, hHG]
  have hso1 := secD_ok hDk (n := k + 1) (by omega)
  rw [secD_cons] at hso1
  have hs := ownsAt.sl h
  rw [secD_cons] at hs
  have hrs0 := rsays13 (readD D 0) (secL D k) hso1 k (secL_len D k) (by omega) q (k + 1) ca rfl hca w hs
  rw [← logB_eq, e2, e3, hdi, ← hRec, hr] at hrs0
  refine hrs0.to fun v w2 ⟨⟨vy, e, hv, hh⟩, hb⟩ => ⟨?_, hb⟩
  rcases hh with ⟨_, h, _⟩ | ⟨rfl, _, y, pr, cr, C, rfl, hsa, _⟩
  · cases h
  · exact ⟨y, pr, cr, hv, hsa.row⟩
set_option maxRecDepth 20000 in
set_option maxHeartbeats 4000000 in
theorem walPlaysC (size : Int) (p : Option Addr) (n cp : Nat) (R : List StepT) (w : World) (ws : wf64 size) (hR : ElsAt (StQ w) w 4 p n R) :
    Calls Tryz.prog 4 [.int .i64 size, .slice p n cp].toArray w (Ret fun v w' => v = .bool true ∧ Below w.heap.size w w') := by
  have hB := Below.refl w.heap.size w
  have hml : maxLen = 9223372036854775807 := by decide
  have hmax := hR.max
  have hRl := hR.1
  have hH1 := fun w' => rhead28 1 1 (by omega) (by omega) w'
  rw [show ((1 : Nat) : Int) = 1 from rfl] at hH1
  have hHl := headB_len 1 1
  have hpn := fun k hok => play_new (m := k + 5) (n := k) rfl hok
  obtain ⟨H, hH⟩ : ∃ H, headB 1 1 = H := ⟨_, rfl⟩
  rw [hH] at hH1 hHl
  simp only [hH] at hpn
  have hHb : (bv H).length = 128 := by rw [bv_length]; exact hHl
  clear hH
  refine calls_W (fn := Tryz.f4) (rs := [.tmp 4]) (n := 194) Tryz.func4 rfl rfl Tryz.ntmps4 (by kernel_rfl) rfl ?_
  refine W_seq ?_
  refine W_region ?_
  refine WR_mk rfl (mk_box ([.int .i64 size]) rfl (fun g2 w2 hg2 hr2 hb2 => ?_))
  have ge_hB_g2 := Nat.le_trans hB.size hg2
  replace hB := hB.acc hb2
  refine WR_val rfl (rn_assign) ?_
  refine WR_nil ?_
  refine thenN ?_
  refine W_seq ?_
  refine W_seq ?_
  refine W_region ?_
  refine WR_val rfl (rn_move) ?_
  refine WR_ent rfl (rn_call (by kernel_rfl) rfl) (few34 p n cp 40 R w2 (stsBelow hR hB) (by omega)) ?_
  rintro _ _ ⟨fB, rfl, hfB, rfl⟩
  refine WR_val rfl (rn_not rfl) ?_
  refine WR_val rfl (rn_move) ?_
  refine WR_partnb 20 rfl (fun hf => ?_) (fun hf => ?_)
  ·
    refine WR_no rfl rfl ?_
    refine WR_no rfl rfl ?_
    refine WR_val rfl (rn_pick_t rfl) ?_
    refine WR_val rfl (rn_move) ?_
    refine WR_no rfl rfl ?_
    refine WR_no rfl rfl ?_
    refine WR_val rfl (rn_pick_t rfl) ?_
    refine WR_nil ?_
    refine thenN ?_
    refine W_tb rfl (rfl) ?_
    refine W_seq ?_
    refine W_region ?_
    refine WR_ent rfl (rn_call (by kernel_rfl) rfl) (known7 w2) ?_
    rintro _ w28 ⟨rfl, hb28⟩
    replace hr2 := hr2.new hb28
    replace hB := hB.acc hb28
    refine WR_val rfl (rn_assign) ?_
    refine WR_nil ?_
    refine thenN ?_
    refine W_ret ?_
    refine thenR ?_
    refine ret_ret [_] ⟨rfl, trivial⟩ ?_
    exact ⟨rfl, hB⟩
  ·
    refine WR_yes rfl ?_
    refine WR_val rfl (rn_load rfl (Ld.row1 hr2 (by kernel_rfl) rfl)) ?_
    refine WR_yes rfl ?_
    refine WR_val rfl (rn_lss rfl rfl) ?_
    refine WR_val rfl (rn_pick_f rfl) ?_
    refine WR_val rfl (rn_move) ?_
    refine WR_part 24 rfl (fun hs4 => ?_) (fun hs4 => ?_)
    ·
      refine WR_no rfl rfl ?_
      refine WR_no rfl rfl ?_
      refine WR_val rfl (rn_pick_t rfl) ?_
      refine WR_nil ?_
      refine thenN ?_
      refine W_tb rfl (rfl) ?_
      refine W_seq ?_
      refine W_region ?_
      refine WR_ent rfl (rn_call (by kernel_rfl) rfl) (known7 w2) ?_
      rintro _ w28 ⟨rfl, hb28⟩
      replace hr2 := hr2.new hb28
      replace hB := hB.acc hb28
      refine WR_val rfl (rn_assign) ?_
      refine WR_nil ?_
      refine thenN ?_
      refine W_ret ?_
      refine thenR ?_
      refine ret_ret [_] ⟨rfl, trivial⟩ ?_
      exact ⟨rfl, hB⟩
    ·
      refine WR_yes rfl ?_
      refine WR_val rfl (rn_load rfl (Ld.row1 hr2 (by kernel_rfl) rfl)) ?_
      refine WR_yes rfl ?_
      refine WR_val rfl (rn_gtr rfl rfl) ?_
      refine WR_val rfl (rn_pick_f rfl) ?_
      refine WR_nil ?_
      refine thenN ?_
      refine W_ifp rfl (fun h200 => ?_) (fun h200 => ?_)
      ·
        refine W_seq ?_
        refine W_region ?_
        refine WR_ent rfl (rn_call (by kernel_rfl) rfl) (known7 w2) ?_
        rintro _ w28 ⟨rfl, hb28⟩
        replace hr2 := hr2.new hb28
        replace hB := hB.acc hb28
        refine WR_val rfl (rn_assign) ?_
        refine WR_nil ?_
        refine thenN ?_
        refine W_ret ?_
        refine thenR ?_
        refine ret_ret [_] ⟨rfl, trivial⟩ ?_
        exact ⟨rfl, hB⟩
      ·
        have hfew := hfB hf
        have hn40 := hfew.1
        have hobt : ∃ k : Nat, size = k := ⟨size.toNat, by omega⟩
        obtain ⟨k, rfl⟩ := hobt
        have hN := fun w' => newC (w := w') (k + 5) (by omega) (by omega)
        rw [show ((k + 5 : Nat) : Int) = (k : Int) + 5 by omega] at hN
        have hfit : fitsN (k + 5) (k : Int) = true := decide_eq_true (by omega)
        have hl2 := hr2.lt
        have hg2w : w.heap.size ≤ g2 := hg2
        refine W_skip ?_
        refine thenN ?_
        refine W_seq ?_
        refine W_region ?_
        refine WR_val rfl (rn_load rfl (Ld.row1 hr2 (by kernel_rfl) rfl)) ?_
        refine WR_val rfl (rn_add rfl rfl (Coup.w64 (by omega))) ?_
        have hB_0 := hB
        refine WR_ent rfl (rn_call (by kernel_rfl) rfl) (hN w2) ?_
        rintro _ w32 ⟨g, B, rfl, hX, hBlo, hb32⟩
        replace hr2 := hr2.new hb32
        replace hB := hB.acc hb32
        have hD : Two (DZ g (newD (k + 5))) None w.heap.size [g2] w32 := Two.one hX (fun b hb => ⟨Nat.le_trans hB_0.size (hBlo b hb), fun hm => by have := hBlo b hb; rw [List.mem_singleton.1 hm] at this; omega⟩) hB.size (fun b hb => by rw [List.mem_singleton.1 hb]; exact hr2.lt)
        refine WR_val rfl (rn_move) ?_
        refine WR_val rfl (rn_extract rfl rfl) ?_
        refine WR_val rfl (rn_extract rfl rfl) ?_
        refine WR_mk rfl (mk_alloc ([Value.pointer none]) (by kernel_rfl) (fun g5 w5 hg5 hr5 hb5 => ?_))
        have ge_hB_g5 := Nat.le_trans hB.size hg5
        have lt_g2_g5 : g2 < g5 := Nat.lt_of_lt_of_le hr2.lt hg5
        replace hr2 := hr2.new hb5
        replace hD := hD.newc hb5 hg5 hr5.lt
        replace hB := hB.acc hb5
        refine WR_sk rfl (sk_store1 rfl rfl rfl rfl hr5 (by kernel_rfl) (by first | (simp only [List.length_replicate]; omega) | (simp only [iv_length]; omega) | (simp only [bv_length, List.length_set]; omega) | simp) (fun w901 hr5 ho901 => ?_))
        replace hr2 := hr2.only ho901 (Nat.ne_of_lt lt_g2_g5)
        replace hD := hD.only ho901 (by first | (right; simp; done) | (left; omega))
        replace hB := ho901.below hB ge_hB_g5
        replace hr5 : row w901 g5 [.pointer (some ⟨g, 0, none⟩)] 24 := hr5
        refine WR_val rfl (rn_assign) ?_
        refine WR_nil ?_
        refine thenN ?_
        refine W_seq ?_
        refine W_seq ?_
        refine W_region ?_
        refine WR_val rfl (rn_move) ?_
        refine WR_val rfl (rn_neq rfl rfl) ?_
        refine WR_val rfl (rn_move) ?_
        refine WR_fp 37 rfl ((by omega)) ?_
        refine WR_yes rfl ?_
        refine WR_val rfl (rn_load rfl (Ld.row1 hr5 (by kernel_rfl) rfl)) ?_
        refine WR_yes rfl ?_
        refine WR_val rfl (rn_load rfl (Ld.row1 hr2 (by kernel_rfl) rfl)) ?_
        refine WR_yes rfl ?_
        have hfm := format26 hD k ⟨by omega, by omega⟩ ((alive_new (n := k + 5) (by omega)).weak (by omega))
        rw [newD_len, hfit, if_pos rfl, if_pos rfl, Int.toNat_natCast] at hfm
        have hpk := hpn k
        have hobt : ∃ D0, fmtD (newD (k + 5)) k = D0 := ⟨_, rfl⟩
        obtain ⟨D0, hD0⟩ := hobt
        rw [hD0] at hfm hpk
        refine WR_ent rfl (rn_call (by kernel_rfl) rfl) (hfm) ?_
        rintro _ w40 ⟨rfl, hD, hb40⟩
        replace hr2 := hr2.kpd hb40.kp (by first | (refine notLL ?_; left; omega) | (refine notLL ?_; right; simp; done) | (intro b o e; cases e; first | (refine notLL ?_; left; omega) | (refine notLL ?_; right; simp; done) | (refine notLL ?_; right; simp [*]; done)) | (intro b hb; refine notLL ?_; left; omega) | (intro b hb e; cases e; exact notLL (by right; simp [*]) hb))
        replace hr5 := hr5.kpd hb40.kp (by first | (refine notLL ?_; left; omega) | (refine notLL ?_; right; simp; done) | (intro b o e; cases e; first | (refine notLL ?_; left; omega) | (refine notLL ?_; right; simp; done) | (refine notLL ?_; right; simp [*]; done)) | (intro b hb; refine notLL ?_; left; omega) | (intro b hb e; cases e; exact notLL (by right; simp [*]) hb))
        replace hB := belLL hB hb40 (by omega)
        refine WR_yes rfl ?_
        refine WR_val rfl (rn_neq rfl rfl) ?_
        refine WR_val rfl (rn_pick_f rfl) ?_
        refine WR_nil ?_
        refine thenN ?_
        refine W_fp rfl ((by omega)) ?_
        refine W_skip ?_
        refine thenN ?_
        refine W_seq ?_
        refine W_region ?_
        refine WR_val rfl (rn_load rfl (Ld.row1 hr2 (by kernel_rfl) rfl)) ?_
        refine WR_val rfl (rn_add rfl rfl (Coup.w64 (by omega))) ?_
        refine WR_mk rfl (mk_make (e := 45) (k + 5) (List.replicate 128 (.int .u8 0)) 128 128 (.int .u8 0) (by kernel_rfl) (by kernel_rfl) ⟨_, rfl, by omega⟩ ⟨_, rfl, by omega⟩ (by intro u hu; exact (List.mem_replicate.1 hu).2) (by simp) (by omega) (by omega) (fun g45 w45 hg45 hr45 hb45 => ?_))
        have ge_hB_g45 := Nat.le_trans hB.size hg45
        have lt_g2_g45 : g2 < g45 := Nat.lt_of_lt_of_le hr2.lt hg45
        have lt_g5_g45 : g5 < g45 := Nat.lt_of_lt_of_le hr5.lt hg45
        replace hr2 := hr2.new hb45
        replace hD := hD.newc hb45 hg45 hr45.lt
        replace hr5 := hr5.new hb45
        replace hB := hB.acc hb45
        have hpk2 := hpk (tOk hD).1
        obtain ⟨hP0, hd0, hr0⟩ := hpk2
        have hZo : secsOk (lastsD (newD (k + 5))) := lasts_ok (newD_ok (by omega))
        have hZl : (lastsD (newD (k + 5))).length = k + 5 := by rw [lastsD, List.length_map, newD_len]
        have hZ0 : (lastsD (newD (k + 5))).set 0 H = secD D0 (k + 5) := first_secs hr0
        rw [newD_lasts (k + 5)] at hr45
        have hZf := flat_len hZo
        rw [hZl] at hZf
        have hown : OwnG w45 0 45 128 g45 0 (k + 5) (k + 5) (bv (lastsD (newD (k + 5))).flatten) := hr45.owns (Nat.zero_le _) (by rw [bv_length]; exact hZf) (by omega)
        refine WR_val rfl (rn_assign) ?_
        refine WR_nil ?_
        refine thenN ?_
        refine W_seq ?_
        refine W_region ?_
        refine WR_val rfl (rn_move) ?_
        refine WR_ent rfl (rn_call (by kernel_rfl) rfl) (hH1 w45) ?_
        rintro _ w47 ⟨rfl, hb47⟩
        replace hr2 := hr2.new hb47
        replace hD := hD.new hb47
        replace hr5 := hr5.new hb47
        replace hown := hown.new hb47
        replace hB := hB.acc hb47
        refine WR_val rfl (rn_indexSl (e := 45) (sz := 128) (by kernel_rfl) rfl rfl (0) (by omega) (by omega)) ?_
        refine WR_sk rfl (sk_storeO (bv H) (0 * 128) hown rfl rfl (by rw [hHb]; kernel_rfl) (by simp only [bv_length]; omega) (bv_one _) (fun w902 hown ho902 => ?_))
        replace hr2 := hr2.only ho902 (Nat.ne_of_lt lt_g2_g45)
        replace hD := hD.only ho902 (by first | (right; simp; done) | (left; omega))
        replace hr5 := hr5.only ho902 (Nat.ne_of_lt lt_g5_g45)
        replace hB := ho902.below hB ge_hB_g45
        rw [flat_set hZo (by rw [hZl]; omega) hHl, hZ0] at hown
        refine WR_nil ?_
        refine thenN ?_
        refine W_seq ?_
        refine W_seq ?_
        refine W_region ?_
        refine WR_val rfl (rn_load rfl (Ld.row1 hr5 (by kernel_rfl) rfl)) ?_
        refine WR_val rfl (rn_load rfl (Ld.row1 hr2 (by kernel_rfl) rfl)) ?_
        refine WR_val rfl (rn_add rfl rfl (Coup.w64 (by omega))) ?_
        have hs31 := sectors31 hD (k + 5) (by rw [hP0.len]; omega) (by rw [hP0.len]; omega)
        rw [show ((k + 5 : Nat) : Int) = (k : Int) + 5 by omega] at hs31
        refine WR_ent rfl (rn_call (by kernel_rfl) rfl) (hs31) ?_
        rintro _ w52 ⟨hu2, hb52⟩
        replace hr2 := hr2.new hb52
        replace hD := hD.new hb52
        replace hr5 := hr5.new hb52
        replace hown := hown.new hb52
        replace hB := hB.acc hb52
        refine WR_val rfl (rn_move) ?_
        have hs2 := hu2.form
        obtain ⟨pu2, cu2, rfl⟩ := hs2
        have hown2 := ownsAt.sl hown
        have hDk0 := hP0.ok
        refine WR_ent rfl (rn_call (by kernel_rfl) rfl) (same33 (secD D0 (k + 5)) (secD D0 (k + 5)) (secD_ok hDk0 (by rw [hP0.len]; omega)) (secD_ok hDk0 (by rw [hP0.len]; omega)) pu2 _ (k + 5) (k + 5) cu2 (k + 5) w52 hu2.sl hown2 (secD_len _ _) (secD_len _ _) (by omega)) ?_
        rintro _ w54 ⟨⟨bb, rfl, hbb⟩, hb54⟩
        replace hr2 := hr2.new hb54
        replace hD := hD.new hb54
        replace hr5 := hr5.new hb54
        replace hown := hown.new hb54
        replace hu2 := hu2.new hb54
        replace hB := hB.acc hb54
        refine WR_val rfl (rn_not rfl) ?_
        refine WR_val rfl (rn_move) ?_
        refine WR_fnb 56 rfl ((hbb.2 rfl)) ?_
        refine WR_yes rfl ?_
        refine WR_val rfl (rn_load rfl (Ld.row1 hr5 (by kernel_rfl) rfl)) ?_
        refine WR_yes rfl ?_
        refine WR_ent rfl (rn_call (by kernel_rfl) rfl) (tOpen hD (hP0.one hd0)) ?_
        rintro _ w58 ⟨⟨po, co, rfl⟩, hb58⟩
        replace hr2 := hr2.new hb58
        replace hD := hD.new hb58
        replace hr5 := hr5.new hb58
        replace hown := hown.new hb58
        replace hu2 := hu2.new hb58
        replace hB := hB.acc hb58
        refine WR_yes rfl ?_
        refine WR_val rfl (rn_lenSl (e := 3) (sz := 1) (by kernel_rfl) rfl rfl) ?_
        refine WR_yes rfl ?_
        refine WR_val rfl (rn_neq rfl rfl) ?_
        refine WR_val rfl (rn_pick_f rfl) ?_
        refine WR_nil ?_
        refine thenN ?_
        refine W_fp rfl ((by simp)) ?_
        refine W_skip ?_
        refine thenN ?_
        refine W_seq ?_
        refine W_region ?_
        refine WR_mk rfl (mk_alloc ([Value.pointer none]) (by kernel_rfl) (fun g8 w8 hg8 hr8 hb8 => ?_))
        have ge_hB_g8 := Nat.le_trans hB.size hg8
        have lt_g2_g8 : g2 < g8 := Nat.lt_of_lt_of_le hr2.lt hg8
        have lt_g5_g8 : g5 < g8 := Nat.lt_of_lt_of_le hr5.lt hg8
        have lt_g45_g8 : g45 < g8 := Nat.lt_of_lt_of_le hown.lt hg8
        replace hr2 := hr2.new hb8
        replace hD := hD.newc hb8 hg8 hr8.lt
        replace hr5 := hr5.new hb8
        replace hown := hown.new hb8
        replace hu2 := hu2.new hb8
        replace hB := hB.acc hb8
        refine WR_nil ?_
        refine thenN ?_
        refine W_seq ?_
        refine W_region ?_
        refine WR_val rfl (rn_load rfl (Ld.row1 hr2 (by kernel_rfl) rfl)) ?_
        refine WR_val rfl (rn_built3 (.int .u64 1) (.int .u64 1) (.int .i64 (k : Int)) [.int .u64 1, .int .u64 1, .int .i64 (k : Int), .slice none 0 0, .int .i64 0] rfl rfl rfl (by kernel_rfl)) ?_
        refine WR_mk rfl (mk_box ([.int .u64 1, .int .u64 1, .int .i64 (k : Int), .slice none 0 0, .int .i64 0]) rfl (fun g64 w64 hg64 hr64 hb64 => ?_))
        have ge_hB_g64 := Nat.le_trans hB.size hg64
        have lt_g2_g64 : g2 < g64 := Nat.lt_of_lt_of_le hr2.lt hg64
        have lt_g5_g64 : g5 < g64 := Nat.lt_of_lt_of_le hr5.lt hg64
        have lt_g8_g64 : g8 < g64 := Nat.lt_of_lt_of_le hr8.lt hg64
        replace hr2 := hr2.new hb64
        replace hD := hD.newc hb64 hg64 hr64.lt
        replace hr5 := hr5.new hb64
        replace hr8 := hr8.new hb64
        replace hB := hB.acc hb64
        refine WR_mk rfl (mk_alloc ([Value.pointer none]) (by kernel_rfl) (fun g9 w9 hg9 hr9 hb9 => ?_))
        have ge_hB_g9 := Nat.le_trans hB.size hg9
        have lt_g2_g9 : g2 < g9 := Nat.lt_of_lt_of_le hr2.lt hg9
        have lt_g5_g9 : g5 < g9 := Nat.lt_of_lt_of_le hr5.lt hg9
        have lt_g8_g9 : g8 < g9 := Nat.lt_of_lt_of_le hr8.lt hg9
        have lt_g64_g9 : g64 < g9 := Nat.lt_of_lt_of_le hr64.lt hg9
        replace hr2 := hr2.new hb9
        replace hD := hD.newc hb9 hg9 hr9.lt
        replace hr5 := hr5.new hb9
        replace hr8 := hr8.new hb9
        replace hr64 := hr64.new hb9
        replace hB := hB.acc hb9
        refine WR_sk rfl (sk_store1 rfl rfl rfl rfl hr9 (by kernel_rfl) (by first | (simp only [List.length_replicate]; omega) | (simp only [iv_length]; omega) | (simp only [bv_length, List.length_set]; omega) | simp) (fun w903 hr9 ho903 => ?_))
        replace hr2 := hr2.only ho903 (Nat.ne_of_lt lt_g2_g9)
        replace hD := hD.only ho903 (by first | (right; simp; done) | (left; omega))
        replace hr5 := hr5.only ho903 (Nat.ne_of_lt lt_g5_g9)
        replace hr8 := hr8.only ho903 (Nat.ne_of_lt lt_g8_g9)
        replace hr64 := hr64.only ho903 (Nat.ne_of_lt lt_g64_g9)
        replace hB := ho903.below hB ge_hB_g9
        replace hr9 : row w903 g9 [.pointer (some ⟨g64, 0, none⟩)] 38 := hr9
        refine WR_nil ?_
        refine thenN ?_
        refine W_seq ?_
        refine W_region ?_
        refine WR_val rfl (rn_makeFunc) ?_
        refine WR_val rfl (rn_assign) ?_
        refine WR_nil ?_
        refine thenN ?_
        refine W_seq ?_
        refine W_seq ?_
        refine W_region ?_
        refine WR_val rfl (rn_move) ?_
        have hst : StW w.heap.size g2 g5 g8 g9 k g 1 w903 := ⟨D0, 1, _, none, some ⟨g64, 0, none⟩, hP0, hD, ⟨hr2, hr5, hr8, hr9, by simp, by simp, by simp, by simp, ⟨by omega, by omega, by omega, by omega⟩, ⟨by omega, by omega, by omega, by omega, by omega, by omega⟩⟩⟩
        refine WR_ent rfl (rn_callc (by kernel_rfl) rfl rfl) (hst.open_ (by omega) (by omega) (by omega)) ?_
        rintro _ w67 ⟨rfl, hst2, hb67⟩
        replace hB := belLL hB hb67 (by omega)
        refine WR_val rfl (rn_not rfl) ?_
        refine WR_nil ?_
        refine thenN ?_
        refine W_fnb rfl ((by simp)) ?_
        refine W_skip ?_
        refine thenN ?_
        refine W_seq ?_
        refine W_seq ?_
        refine W_region ?_
        refine WR_val rfl (rn_assign) ?_
        refine WR_nil ?_
        refine thenN ?_
        refine W_block ?_
        clear hst
        refine W_loop (α := Nat) 0 (fun i => [(11, .int .i64 (i : Nat)), (1, .slice p n cp), (2, .pointer (some ⟨g2, 0, none⟩)), (5, .pointer (some ⟨g5, 0, none⟩)), (8, .pointer (some ⟨g8, 0, none⟩)), (9, .pointer (some ⟨g9, 0, none⟩)), (10, .func (.func 24) #[] #[.pointer (some ⟨g5, 0, none⟩), .pointer (some ⟨g2, 0, none⟩), .pointer (some ⟨g9, 0, none⟩), .pointer (some ⟨g8, 0, none⟩)])])
          (fun i w' => i ≤ n ∧ StP w.heap.size g2 g5 g8 g9 k g (2 + 3 * i) w' ∧ Below w.heap.size w w') (fun i => n - i)
          ⟨rfl, rfl, rfl, rfl, rfl, rfl, rfl, rfl⟩ ⟨Nat.zero_le _, hst2, hB⟩ ?_
        clear hst2 hB hB_0
        rintro i f wr ⟨hi, hst0, hB⟩
        have hBr := Below.refl wr.heap.size wr
        refine W_seq ?_
        refine W_seq ?_
        refine W_region ?_
        refine WR_val rfl (rn_move) ?_
        refine WR_val rfl (rn_move) ?_
        refine WR_val rfl (rn_lenSl (e := 58) (sz := 4) (by kernel_rfl) rfl rfl) ?_
        refine WR_val rfl (rn_lss rfl rfl) ?_
        refine WR_nil ?_
        refine thenN ?_
        refine W_ifp rfl (fun hlt => ?_) (fun hlt => ?_)
        ·
          refine W_skip ?_
          refine thenN ?_
          refine W_seq ?_
          refine W_block ?_
          refine W_seq ?_
          have hobt := hR.get (i := i) (by omega)
          obtain ⟨a, hx⟩ := hobt
          have hobt := hR.some (by omega)
          obtain ⟨gp, op, rfl, _⟩ := hobt
          have hle := hR.ldB (P := Tryz.prog) (t := 58) (by kernel_rfl) (by kernel_rfl) hx
          obtain ⟨cs, ⟨ql, c1, q2, c2, rfl, hq1, hq2, hok2, hwk, hwn⟩, hcl4, hld⟩ := hle
          have hfa := (hfew.2 a (List.mem_of_getElem? hx))
          refine W_region ?_
          refine WR_val rfl (rn_move) ?_
          refine WR_val rfl (rn_move) ?_
          refine WR_val rfl (rn_indexSl (e := 58) (sz := 4) (by kernel_rfl) rfl rfl (i) (by omega) (by omega)) ?_
          refine WR_val rfl (rn_load rfl ((hld _ hB).1)) ?_
          refine WR_mk rfl (mk_alloc ([Value.int .i64 0, Value.int .i64 0, Value.slice none 0 0, Value.slice none 0 0]) (by kernel_rfl) (fun g12 w12 hg12 hr12 hb12 => ?_))
          have ge_hB_g12 := Nat.le_trans hB.size hg12
          have ge_hBr_g12 := Nat.le_trans hBr.size hg12
          replace hB := hB.acc hb12
          replace hBr := hBr.acc hb12
          refine WR_sk rfl (sk_storeA 4 ([.int .i64 a.kind, .int .i64 a.n, .slice ql a.lv.length c1, .slice q2 a.picks.length c2]) rfl rfl hr12 (by kernel_rfl) (by first | assumption | (simp; done) | (simp [bv_length, *]; done)) (by first | assumption | (simp; done) | (simp [bv_length, *]; done) | rfl) (by first | exact bv_one _ | assumption | (simp [Value.oneCell']; done)) (fun w904 hr12 ho904 => ?_))
          replace hB := ho904.below hB ge_hB_g12
          replace hBr := ho904.below hBr ge_hBr_g12
          refine WR_nil ?_
          refine thenN ?_
          refine W_seq ?_
          refine W_region ?_
          refine WR_val rfl (rn_fieldAddr (off := 0) (by kernel_rfl) rfl) ?_
          refine WR_val rfl (rn_load rfl (Ld.row1 hr12 (by kernel_rfl) rfl)) ?_
          refine WR_nil ?_
          refine thenN ?_
          refine W_block ?_
          refine W_seq ?_
          refine W_region ?_
          refine WR_val rfl (rn_eql rfl rfl) ?_
          refine WR_val rfl (rn_assign) ?_
          refine WR_nil ?_
          refine thenN ?_
          refine W_ifp rfl (fun hk1 => ?_) (fun hk1 => ?_)
          ·
            refine W_seq ?_
            refine W_seq ?_
            have hst := hst0.new hBr
            obtain ⟨D, m, L, Lw, vx, y, c, s, S, hP, hD, hcl, hW, hLw, hx2⟩ := hst
            refine W_region ?_
            refine WR_val rfl (rn_load rfl (Ld.row1 hcl.r8 (by kernel_rfl) rfl)) ?_
            refine WR_val rfl (rn_eqlPn (by kernel_rfl) rfl rfl) ?_
            refine WR_nil ?_
            refine thenN ?_
            refine W_if rfl (fun hnil => ?_) (fun hnil => ?_)
            ·
              refine W_exit ?_
              refine thenX ?_
              refine blockO rfl ?_
              refine blockX ?_
              refine thenN ?_
              refine W_region ?_
              refine WR_val rfl (rn_move) ?_
              refine WR_val rfl (rn_add rfl rfl (Coup.w64 (by omega))) ?_
              refine WR_val rfl (rn_assign) ?_
              refine WR_nil ?_
              refine loopN ⟨i + 1, by omega, ⟨by go_num, rfl, rfl, rfl, rfl, rfl, rfl, rfl⟩, by omega, (hst0.new hBr).up (by omega), hB⟩
            ·
              have hobt := hx2.resolve_left (of_decide_eq_false hnil)
              obtain ⟨x, G, rfl, hG, hls⟩ := hobt
              have hB2 := Below.refl w904.heap.size w904
              have hlv := lv_of_els (hq1.to hB fun _ _ hq => hq.below hB)
              have hrl := recOf_len a.lv
              have hrok := recOf_ok a.lv
              have hrec := fun w' (h : LvAt w' ql a.lv.length a.lv) => record8 a.lv ql a.lv.length c1 w' h (by omega)
              generalize recOf a.lv = r at hrec hrl hrok
              replace hrec := fun w' h => (hrec w' h).to fun v w2 hh => (show ownsAt w2 w'.heap.size 112 513 v r.length (chsV r) ∧ Below w'.heap.size w' w2 from ⟨by rw [hrl]; exact hh.1, hh.2⟩)
              have hobt := id hcl
              obtain ⟨h2, h5, h8, h9, _⟩ := hobt
              refine W_skip ?_
              refine thenN ?_
              refine W_seq ?_
              refine W_drawL (w.heap.size) ([g2, g5, g8, g9]) (by kernel_rfl) ?_
              intro w905 hb905 hn905 hS905
              replace hr12 := hr12.new hb905
              replace h5 := h5.new hb905
              replace h8 := h8.new hb905
              replace h9 := h9.new hb905
              replace hB := hB.acc hb905
              replace hB2 := hB2.acc hb905
              have hr12_d905 := hr12
              have h5_d905 := h5
              have h8_d905 := h8
              have h9_d905 := h9
              have hB_d905 := hB
              have hB2_d905 := hB2
              refine WA_take 0 (by kernel_rfl) rfl (fun w' hS' => rn_load rfl (Ld.row1 (h5_d905.kpd hS' (by first | (simp; done) | (simp; omega) | (simp [*]; done) | exact notLL (Or.inl (by omega)) | exact notLL (Or.inr (by simp)) | exact fun g hm => Nat.le_trans (by omega) (inLL hm).1 | (intro b o e; cases e; exact notLL (Or.inl (by omega))) | (intro b hm; have := (hu.lt b (Option.mem_toList.1 hm)).1; omega) | (intro b o e; cases e; intro hm; have := (hu.lt _ (Option.mem_toList.1 hm)).1; omega))) (by kernel_rfl) rfl)) ?_
              refine WA_take 1 (by kernel_rfl) rfl (fun w' hS' => rn_load rfl (Ld.row1 (h8_d905.kpd hS' (by first | (simp; done) | (simp; omega) | (simp [*]; done) | exact notLL (Or.inl (by omega)) | exact notLL (Or.inr (by simp)) | exact fun g hm => Nat.le_trans (by omega) (inLL hm).1 | (intro b o e; cases e; exact notLL (Or.inl (by omega))) | (intro b hm; have := (hu.lt b (Option.mem_toList.1 hm)).1; omega) | (intro b o e; cases e; intro hm; have := (hu.lt _ (Option.mem_toList.1 hm)).1; omega))) (by kernel_rfl) rfl)) ?_
              refine WA_take 2 (by kernel_rfl) rfl (fun w' hS' => rn_load rfl (Ld.row1 (h9_d905.kpd hS' (by first | (simp; done) | (simp; omega) | (simp [*]; done) | exact notLL (Or.inl (by omega)) | exact notLL (Or.inr (by simp)) | exact fun g hm => Nat.le_trans (by omega) (inLL hm).1 | (intro b o e; cases e; exact notLL (Or.inl (by omega))) | (intro b hm; have := (hu.lt b (Option.mem_toList.1 hm)).1; omega) | (intro b o e; cases e; intro hm; have := (hu.lt _ (Option.mem_toList.1 hm)).1; omega))) (by kernel_rfl) rfl)) ?_
              refine WA_take 3 (by kernel_rfl) rfl (fun _ _ => rn_fieldAddr (off := 2) (by kernel_rfl) rfl) ?_
              refine WA_one 4 (by kernel_rfl) ?_
              refine WO_val rfl rfl (rn_load rfl (Ld.row1 hr12 (by kernel_rfl) rfl)) hS905 ?_
              refine WA_one 5 (by kernel_rfl) ?_
              have hlv2 : LvAt w905 ql a.lv.length a.lv := lv_of_els (hq1.to hB fun _ _ hq => hq.below hB)
              have hB22 := hB2.size
              refine WO_ent rfl rfl (rn_call (by kernel_rfl) rfl) (hrec w905 hlv2) ?_
              rintro _ w90 ⟨hu, hb90⟩
              have hS907 := hS905.add0 hb90
              refine ⟨hS907, ?_⟩
              replace hr12 := hr12.new hb90
              replace h5 := h5.new hb90
              replace h8 := h8.new hb90
              replace h9 := h9.new hb90
              replace hB := hB.acc hb90
              replace hB2 := hB2.acc hb90
              refine WA_one 6 (by kernel_rfl) ?_
              have hs90 := hu.form
              obtain ⟨qr, cr, rfl⟩ := hs90
              refine WO_ent rfl rfl (rn_call (by kernel_rfl) rfl) (comSt hP hG hcl hW hLw hls hB2 (hu.mono hB22) hrok (by omega) (by omega) (by omega) (by omega)) ?_
              rintro _ w91 ⟨rfl, hst2, hb91⟩
              have hS908 := hS907.addLL hn905 hb91
              refine ⟨hS908, ?_⟩
              replace hB := belLL hB hb91 (by omega)
              refine WA_take 7 (by kernel_rfl) rfl (fun _ _ => rn_not rfl) ?_
              refine WA_done (by kernel_rfl) ?_
              refine thenN ?_
              refine W_fnb rfl ((by simp)) ?_
              refine W_skip ?_
              refine blockN ?_
              refine blockN ?_
              refine thenN ?_
              refine W_region ?_
              refine WR_val rfl (rn_move) ?_
              refine WR_val rfl (rn_add rfl rfl (Coup.w64 (by omega))) ?_
              refine WR_val rfl (rn_assign) ?_
              refine WR_nil ?_
              refine loopN ⟨i + 1, by omega, ⟨by go_num, rfl, rfl, rfl, rfl, rfl, rfl, rfl⟩, by omega, hst2.up (by omega), hB⟩
          ·
            refine W_seq ?_
            refine W_region ?_
            refine WR_val rfl (rn_eql rfl rfl) ?_
            refine WR_val rfl (rn_assign) ?_
            refine WR_nil ?_
            refine thenN ?_
            refine W_ifp rfl (fun hk2 => ?_) (fun hk2 => ?_)
            ·
              refine W_seq ?_
              refine W_seq ?_
              have hst := hst0.new hBr
              obtain ⟨D, m, L, Lw, vx, y, c, s, S, hP, hD, hcl, hW, hLw, hx2⟩ := hst
              refine W_region ?_
              refine WR_val rfl (rn_load rfl (Ld.row1 hcl.r8 (by kernel_rfl) rfl)) ?_
              refine WR_val rfl (rn_eqlPn (by kernel_rfl) rfl rfl) ?_
              refine WR_nil ?_
              refine thenN ?_
              refine W_if rfl (fun hnil => ?_) (fun hnil => ?_)
              ·
                refine W_exit ?_
                refine thenX ?_
                refine blockO rfl ?_
                refine blockX ?_
                refine thenN ?_
                refine W_region ?_
                refine WR_val rfl (rn_move) ?_
                refine WR_val rfl (rn_add rfl rfl (Coup.w64 (by omega))) ?_
                refine WR_val rfl (rn_assign) ?_
                refine WR_nil ?_
                refine loopN ⟨i + 1, by omega, ⟨by go_num, rfl, rfl, rfl, rfl, rfl, rfl, rfl⟩, by omega, (hst0.new hBr).up (by omega), hB⟩
              ·
                have hobt := hx2.resolve_left (of_decide_eq_false hnil)
                obtain ⟨x, G, rfl, hG, hls⟩ := hobt
                have hLL := LoL.refl w.heap.size [] w904
                refine W_skip ?_
                refine thenN ?_
                refine W_seq ?_
                refine W_region ?_
                refine WR_val rfl (rn_load rfl (Ld.row1 hcl.r8 (by kernel_rfl) rfl)) ?_
                refine WR_ent rfl (rn_call (by kernel_rfl) rfl) (dead23 hG) ?_
                rintro _ _ ⟨rfl, rfl⟩
                refine WR_val rfl (rn_assign) ?_
                refine WR_nil ?_
                refine thenN ?_
                refine W_seq ?_
                refine W_region ?_
                refine WR_val rfl (rn_load rfl (Ld.row1 hcl.r8 (by kernel_rfl) rfl)) ?_
                refine WR_ent rfl (rn_call (by kernel_rfl) rfl) (truncPlay hP hG hls (by omega)) ?_
                rintro _ w100 ⟨e, D2, G2, m2, rfl, hb100, hG2, hP2, hcase⟩
                replace hcl := hcl.ll hb100 (fun b hb => hb)
                replace hW := hW.ll hb100 (fun b hb => (hLw b hb).1)
                replace hB := belLL hB hb100 (by omega)
                refine WR_val rfl (rn_assign) ?_
                refine WR_nil ?_
                refine thenN ?_
                refine W_seq ?_
                refine W_seq ?_
                refine W_region ?_
                refine WR_val rfl (rn_move) ?_
                refine WR_val rfl (rn_neq rfl rfl) ?_
                refine WR_nil ?_
                refine thenN ?_
                refine W_ifp rfl (fun hne => ?_) (fun hne => ?_)
                ·
                  refine W_seq ?_
                  refine W_seq ?_
                  have hcs : e = 10 ∧ G2.dead = true ∧ (D2.dead = true ∨ G.dead = true) := hcase.elim (fun h => absurd h.1 hne) id
                  obtain ⟨rfl, hdG2, hor⟩ := hcs
                  have hst3 : StP w.heap.size g2 g5 g8 g9 k g (2 + 3 * i + 1) w100 := ⟨D2, m2, L, Lw, some ⟨x, 0, none⟩, y, c, s, S, hP2, hG2.fst, hcl, hW, hLw, .inr ⟨x, G2, rfl, hG2, .inl hdG2⟩⟩
                  refine W_region ?_
                  refine WR_val rfl (rn_move) ?_
                  refine WR_val rfl (rn_neq rfl rfl) ?_
                  refine WR_val rfl (rn_move) ?_
                  refine WR_fp 105 rfl ((by omega)) ?_
                  refine WR_yes rfl ?_
                  refine WR_val rfl (rn_load rfl (Ld.row1 hcl.r5 (by kernel_rfl) rfl)) ?_
                  refine WR_yes rfl ?_
                  refine WR_ent rfl (rn_call (by kernel_rfl) rfl) (tDead hG2.fst) ?_
                  rintro _ _ ⟨rfl, rfl⟩
                  refine WR_yes rfl ?_
                  refine WR_val rfl (rn_not rfl) ?_
                  refine WR_yes rfl ?_
                  refine WR_val rfl (rn_move) ?_
                  refine WR_partnb 109 rfl (fun hdd => ?_) (fun hdd => ?_)
                  ·
                    refine WR_yes rfl ?_
                    have hGd : G.dead = true := hor.resolve_left (fun h => by rw [h] at hdd; cases hdd)
                    refine WR_val rfl (rn_move) ?_
                    refine WR_yes rfl ?_
                    refine WR_val rfl (rn_not rfl) ?_
                    refine WR_yes rfl ?_
                    refine WR_val rfl (rn_pick_t rfl) ?_
                    refine WR_val rfl (rn_pick_f rfl) ?_
                    refine WR_val rfl (rn_move) ?_
                    refine WR_fnb 114 rfl (hGd) ?_
                    refine WR_yes rfl ?_
                    refine WR_val rfl (rn_load rfl (Ld.row1 hcl.r8 (by kernel_rfl) rfl)) ?_
                    refine WR_yes rfl ?_
                    refine WR_ent rfl (rn_call (by kernel_rfl) rfl) (dead23 hG2) ?_
                    rintro _ _ ⟨rfl, rfl⟩
                    refine WR_yes rfl ?_
                    refine WR_val rfl (rn_not rfl) ?_
                    refine WR_val rfl (rn_pick_f rfl) ?_
                    refine WR_nil ?_
                    refine thenN ?_
                    refine W_fnb rfl (hdG2) ?_
                    refine W_skip ?_
                    refine thenN ?_
                    refine W_exit ?_
                    refine thenX ?_
                    refine blockO rfl ?_
                    refine blockX ?_
                    refine thenN ?_
                    refine W_region ?_
                    refine WR_val rfl (rn_move) ?_
                    refine WR_val rfl (rn_add rfl rfl (Coup.w64 (by omega))) ?_
                    refine WR_val rfl (rn_assign) ?_
                    refine WR_nil ?_
                    refine loopN ⟨i + 1, by omega, ⟨by go_num, rfl, rfl, rfl, rfl, rfl, rfl, rfl⟩, by omega, hst3.up (by omega), hB⟩
                  ·
                    refine WR_no rfl rfl ?_
                    refine WR_no rfl rfl ?_
                    refine WR_yes rfl ?_
                    refine WR_val rfl (rn_pick_f rfl) ?_
                    refine WR_val rfl (rn_pick_f rfl) ?_
                    refine WR_val rfl (rn_move) ?_
                    refine WR_yes rfl ?_
                    refine WR_val rfl (rn_load rfl (Ld.row1 hcl.r8 (by kernel_rfl) rfl)) ?_
                    refine WR_yes rfl ?_
                    refine WR_ent rfl (rn_call (by kernel_rfl) rfl) (dead23 hG2) ?_
                    rintro _ _ ⟨rfl, rfl⟩
                    refine WR_yes rfl ?_
                    refine WR_val rfl (rn_not rfl) ?_
                    refine WR_val rfl (rn_pick_f rfl) ?_
                    refine WR_nil ?_
                    refine thenN ?_
                    refine W_fnb rfl (hdG2) ?_
                    refine W_skip ?_
                    refine thenN ?_
                    refine W_exit ?_
                    refine thenX ?_
                    refine blockO rfl ?_
                    refine blockX ?_
                    refine thenN ?_
                    refine W_region ?_
                    refine WR_val rfl (rn_move) ?_
                    refine WR_val rfl (rn_add rfl rfl (Coup.w64 (by omega))) ?_
                    refine WR_val rfl (rn_assign) ?_
                    refine WR_nil ?_
                    refine loopN ⟨i + 1, by omega, ⟨by go_num, rfl, rfl, rfl, rfl, rfl, rfl, rfl⟩, by omega, hst3.up (by omega), hB⟩
                ·
                  have hobt := hcase.resolve_right (fun h => hne (by rw [h.1]; decide))
                  obtain ⟨he, hGd, rfl, hd2, rfl, hccb, hrecs, hrd2⟩ := hobt
                  subst he
                  obtain ⟨h2, h5, h8, h9, p2, p5, p8, p9, ⟨q2', q5', q8', q9'⟩, ⟨n1, n2, n3, n5, n6, n7⟩⟩ := hcl
                  obtain ⟨pw, cw, L1, hy, hAw, hyL1, hL1⟩ := hW.ex
                  unfold rlC at hy
                  have hlt2 := h2.lt
                  have hlt5 := h5.lt
                  have hlt8 := h8.lt
                  have hlt9 := h9.lt
                  have hylt := hy.lt
                  have hyn := (hLw y hW.inL).2
                  simp only [List.mem_cons, List.not_mem_nil, or_false, not_or] at hyn
                  have hc64 : c + 1 < 18446744073709551616 := by omega
                  have hLt2 : ∀ b ∈ L, b < w100.heap.size := fun b hb => hG2.two.lt b (List.mem_cons_of_mem _ hb)
                  have hlo2 := hG2.two.lo
                  have hB31 := Below.refl w100.heap.size w100
                  have hBs31 := hB.size
                  refine W_skip ?_
                  refine thenN ?_
                  refine W_cut (fun y2 : Nat => [(13, .bool G.dead), (11, .int .i64 (i : Nat)), (1, .slice (some ⟨gp, op, none⟩) n cp), (2, .pointer (some ⟨g2, 0, none⟩)), (5, .pointer (some ⟨g5, 0, none⟩)), (8, .pointer (some ⟨g8, 0, none⟩)), (9, .pointer (some ⟨g9, 0, none⟩)), (10, .func (.func 24) #[] #[.pointer (some ⟨g5, 0, none⟩), .pointer (some ⟨g2, 0, none⟩), .pointer (some ⟨g9, 0, none⟩), .pointer (some ⟨g8, 0, none⟩)])]) (fun y2 w' => row w' g2 [.int .i64 (k : Int)] 3 ∧ row w' g5 [.pointer (some ⟨g, 0, none⟩)] 24 ∧ row w' g8 [.pointer (some ⟨x, 0, none⟩)] 28 ∧ row w' g9 [.pointer (some ⟨y2, 0, none⟩)] 38 ∧ row w' y2 [.int .u64 ((c + 1 : Nat) : Int), .int .u64 ((c + 1 : Nat) : Int), .int .i64 (k : Int), .slice none 0 0, .int .i64 0] 43 ∧ LgAt g x None w.heap.size (y2 :: L) D2 (gP k (c + 1) (c + 1) []) w' ∧ Below w.heap.size w w' ∧ w100.heap.size ≤ y2) ?_ ?_
                  ·
                    refine W_draw' [g9] (by kernel_rfl) ?_
                    intro w909 hb909 hS909
                    replace h2 := h2.new hb909
                    replace h5 := h5.new hb909
                    replace h8 := h8.new hb909
                    replace h9 := h9.new hb909
                    replace hy := hy.new hb909
                    replace hG2 := hG2.new hb909
                    replace hB := hB.acc hb909
                    replace hB31 := hB31.acc hb909
                    have h2_d909 := h2
                    have h5_d909 := h5
                    have h8_d909 := h8
                    have h9_d909 := h9
                    have hy_d909 := hy
                    have hG2_d909 := hG2
                    have hB_d909 := hB
                    have hB31_d909 := hB31
                    refine WA_take 10 (by kernel_rfl) rfl (fun w' hS' => rn_load rfl (Ld.row1 (h2_d909.kpd hS' (by first | (simp; done) | (simp; omega) | (simp [*]; done) | exact notLL (Or.inl (by omega)) | exact notLL (Or.inr (by simp)) | exact fun g hm => Nat.le_trans (by omega) (inLL hm).1 | (intro b o e; cases e; exact notLL (Or.inl (by omega))) | (intro b hm; have := (hu.lt b (Option.mem_toList.1 hm)).1; omega) | (intro b o e; cases e; intro hm; have := (hu.lt _ (Option.mem_toList.1 hm)).1; omega))) (by kernel_rfl) rfl)) ?_
                    refine WA_two 0 5 (by kernel_rfl) ?_ ?_
                    ·
                      refine WO_val rfl rfl (rn_load rfl (Ld.row1 h9 (by kernel_rfl) rfl)) hS909 ?_
                      refine WA_take 1 (by kernel_rfl) rfl (fun _ _ => rn_nilCheckP rfl) ?_
                      refine WA_take 2 (by kernel_rfl) rfl (fun _ _ => rn_fieldAddr (off := 0) (by kernel_rfl) rfl) ?_
                      refine WA_take 3 (by kernel_rfl) rfl (fun w' hS' => rn_load rfl (Ld.row1 (hy_d909.kpd hS' (by first | (simp; done) | (simp; omega) | (simp [*]; done) | exact notLL (Or.inl (by omega)) | exact notLL (Or.inr (by simp)) | exact fun g hm => Nat.le_trans (by omega) (inLL hm).1 | (intro b o e; cases e; exact notLL (Or.inl (by omega))) | (intro b hm; have := (hu.lt b (Option.mem_toList.1 hm)).1; omega) | (intro b o e; cases e; intro hm; have := (hu.lt _ (Option.mem_toList.1 hm)).1; omega))) (by kernel_rfl) rfl)) ?_
                      refine WA_take 4 (by kernel_rfl) rfl (fun _ _ => rn_add rfl rfl (wu64 (by omega))) ?_
                      refine WA_one 5 (by kernel_rfl) ?_
                      refine WO_val rfl rfl (rn_load rfl (Ld.row1 h9 (by kernel_rfl) rfl)) hS909 ?_
                      refine WA_take 6 (by kernel_rfl) rfl (fun _ _ => rn_nilCheckP rfl) ?_
                      refine WA_take 7 (by kernel_rfl) rfl (fun _ _ => rn_fieldAddr (off := 0) (by kernel_rfl) rfl) ?_
                      refine WA_take 8 (by kernel_rfl) rfl (fun w' hS' => rn_load rfl (Ld.row1 (hy_d909.kpd hS' (by first | (simp; done) | (simp; omega) | (simp [*]; done) | exact notLL (Or.inl (by omega)) | exact notLL (Or.inr (by simp)) | exact fun g hm => Nat.le_trans (by omega) (inLL hm).1 | (intro b o e; cases e; exact notLL (Or.inl (by omega))) | (intro b hm; have := (hu.lt b (Option.mem_toList.1 hm)).1; omega) | (intro b o e; cases e; intro hm; have := (hu.lt _ (Option.mem_toList.1 hm)).1; omega))) (by kernel_rfl) rfl)) ?_
                      refine WA_take 9 (by kernel_rfl) rfl (fun _ _ => rn_add rfl rfl (wu64 (by omega))) ?_
                      refine WA_take 11 (by kernel_rfl) rfl (fun _ _ => rn_built3 (.int .u64 ((c : Int) + 1)) (.int .u64 ((c : Int) + 1)) (.int .i64 (k : Int)) [.int .u64 ((c : Int) + 1), .int .u64 ((c : Int) + 1), .int .i64 (k : Int), .slice none 0 0, .int .i64 0] rfl rfl rfl (by kernel_rfl)) ?_
                      refine WA_one 12 (by kernel_rfl) ?_
                      refine WO_mk rfl rfl (mk_box ([.int .u64 ((c : Int) + 1), .int .u64 ((c : Int) + 1), .int .i64 (k : Int), .slice none 0 0, .int .i64 0]) rfl (fun g131 w131 hg131 hr131 hb131 => ?_))
                      have hS912 := hS909.add0 hb131
                      refine ⟨hS912, ?_⟩
                      have ge_hS909_g131 := Nat.le_trans hS909.size hg131
                      have ge_hB_g131 := Nat.le_trans hB.size hg131
                      have ge_hB31_g131 := Nat.le_trans hB31.size hg131
                      have lt_g2_g131 : g2 < g131 := Nat.lt_of_lt_of_le h2.lt hg131
                      have lt_g5_g131 : g5 < g131 := Nat.lt_of_lt_of_le h5.lt hg131
                      have lt_g8_g131 : g8 < g131 := Nat.lt_of_lt_of_le h8.lt hg131
                      have lt_g9_g131 : g9 < g131 := Nat.lt_of_lt_of_le h9.lt hg131
                      have lt_y_g131 : y < g131 := Nat.lt_of_lt_of_le hy.lt hg131
                      replace h2 := h2.new hb131
                      replace h5 := h5.new hb131
                      replace h8 := h8.new hb131
                      replace h9 := h9.new hb131
                      replace hy := hy.new hb131
                      replace hG2 := hG2.newc hb131 hg131 hr131.lt
                      replace hB := hB.acc hb131
                      replace hB31 := hB31.acc hb131
                      refine WA_one 13 (by kernel_rfl) ?_
                      refine WO_sk rfl rfl (sk_store1 rfl rfl rfl rfl h9 (by kernel_rfl) (by first | (simp only [List.length_replicate]; omega) | (simp only [iv_length]; omega) | (simp only [bv_length, List.length_set]; omega) | simp) (fun w914 h9 ho914 => ?_))
                      have hS913 := hS912.add1 ho914 (by first | (left; omega) | (right; simp; done) | (right; simp; omega))
                      refine ⟨hS913, ?_⟩
                      replace h2 := h2.only ho914 (Nat.ne_of_lt lt_g2_g9)
                      replace h5 := h5.only ho914 (Nat.ne_of_lt lt_g5_g9)
                      replace h8 := h8.only ho914 (Nat.ne_of_lt lt_g8_g9)
                      replace hy := hy.only ho914 (by omega)
                      replace hr131 := hr131.only ho914 (Nat.ne_of_gt lt_g9_g131)
                      replace hB := ho914.below hB ge_hB_g9
                      replace hG2 := hG2.only ho914 (.inr (List.mem_cons_of_mem _ p9))
                      replace h9 : row w914 g9 [.pointer (some ⟨g131, 0, none⟩)] 38 := h9
                      rw [show (c : Int) + 1 = ((c + 1 : Nat) : Int) by omega] at hr131
                      refine WA_done (by kernel_rfl) ?_
                      exact ⟨g131, ⟨rfl, rfl, rfl, rfl, rfl, rfl, rfl, rfl, rfl⟩, h2, h5, h8, h9, hr131, hG2, hB, by omega⟩
                    ·
                      refine WO_val rfl rfl (rn_load rfl (Ld.row1 h9 (by kernel_rfl) rfl)) hS909 ?_
                      refine WA_take 6 (by kernel_rfl) rfl (fun _ _ => rn_nilCheckP rfl) ?_
                      refine WA_take 7 (by kernel_rfl) rfl (fun _ _ => rn_fieldAddr (off := 0) (by kernel_rfl) rfl) ?_
                      refine WA_take 8 (by kernel_rfl) rfl (fun w' hS' => rn_load rfl (Ld.row1 (hy_d909.kpd hS' (by first | (simp; done) | (simp; omega) | (simp [*]; done) | exact notLL (Or.inl (by omega)) | exact notLL (Or.inr (by simp)) | exact fun g hm => Nat.le_trans (by omega) (inLL hm).1 | (intro b o e; cases e; exact notLL (Or.inl (by omega))) | (intro b hm; have := (hu.lt b (Option.mem_toList.1 hm)).1; omega) | (intro b o e; cases e; intro hm; have := (hu.lt _ (Option.mem_toList.1 hm)).1; omega))) (by kernel_rfl) rfl)) ?_
                      refine WA_take 9 (by kernel_rfl) rfl (fun _ _ => rn_add rfl rfl (wu64 (by omega))) ?_
                      refine WA_one 0 (by kernel_rfl) ?_
                      refine WO_val rfl rfl (rn_load rfl (Ld.row1 h9 (by kernel_rfl) rfl)) hS909 ?_
                      refine WA_take 1 (by kernel_rfl) rfl (fun _ _ => rn_nilCheckP rfl) ?_
                      refine WA_take 2 (by kernel_rfl) rfl (fun _ _ => rn_fieldAddr (off := 0) (by kernel_rfl) rfl) ?_
                      refine WA_take 3 (by kernel_rfl) rfl (fun w' hS' => rn_load rfl (Ld.row1 (hy_d909.kpd hS' (by first | (simp; done) | (simp; omega) | (simp [*]; done) | exact notLL (Or.inl (by omega)) | exact notLL (Or.inr (by simp)) | exact fun g hm => Nat.le_trans (by omega) (inLL hm).1 | (intro b o e; cases e; exact notLL (Or.inl (by omega))) | (intro b hm; have := (hu.lt b (Option.mem_toList.1 hm)).1; omega) | (intro b o e; cases e; intro hm; have := (hu.lt _ (Option.mem_toList.1 hm)).1; omega))) (by kernel_rfl) rfl)) ?_
                      refine WA_take 4 (by kernel_rfl) rfl (fun _ _ => rn_add rfl rfl (wu64 (by omega))) ?_
                      refine WA_take 11 (by kernel_rfl) rfl (fun _ _ => rn_built3 (.int .u64 ((c : Int) + 1)) (.int .u64 ((c : Int) + 1)) (.int .i64 (k : Int)) [.int .u64 ((c : Int) + 1), .int .u64 ((c : Int) + 1), .int .i64 (k : Int), .slice none 0 0, .int .i64 0] rfl rfl rfl (by kernel_rfl)) ?_
                      refine WA_one 12 (by kernel_rfl) ?_
                      refine WO_mk rfl rfl (mk_box ([.int .u64 ((c : Int) + 1), .int .u64 ((c : Int) + 1), .int .i64 (k : Int), .slice none 0 0, .int .i64 0]) rfl (fun g131 w131 hg131 hr131 hb131 => ?_))
                      have hS917 := hS909.add0 hb131
                      refine ⟨hS917, ?_⟩
                      have ge_hS909_g131 := Nat.le_trans hS909.size hg131
                      have ge_hB_g131 := Nat.le_trans hB.size hg131
                      have ge_hB31_g131 := Nat.le_trans hB31.size hg131
                      have lt_g2_g131 : g2 < g131 := Nat.lt_of_lt_of_le h2.lt hg131
                      have lt_g5_g131 : g5 < g131 := Nat.lt_of_lt_of_le h5.lt hg131
                      have lt_g8_g131 : g8 < g131 := Nat.lt_of_lt_of_le h8.lt hg131
                      have lt_g9_g131 : g9 < g131 := Nat.lt_of_lt_of_le h9.lt hg131
                      have lt_y_g131 : y < g131 := Nat.lt_of_lt_of_le hy.lt hg131
                      replace h2 := h2.new hb131
                      replace h5 := h5.new hb131
                      replace h8 := h8.new hb131
                      replace h9 := h9.new hb131
                      replace hy := hy.new hb131
                      replace hG2 := hG2.newc hb131 hg131 hr131.lt
                      replace hB := hB.acc hb131
                      replace hB31 := hB31.acc hb131
                      refine WA_one 13 (by kernel_rfl) ?_
                      refine WO_sk rfl rfl (sk_store1 rfl rfl rfl rfl h9 (by kernel_rfl) (by first | (simp only [List.length_replicate]; omega) | (simp only [iv_length]; omega) | (simp only [bv_length, List.length_set]; omega) | simp) (fun w919 h9 ho919 => ?_))
                      have hS918 := hS917.add1 ho919 (by first | (left; omega) | (right; simp; done) | (right; simp; omega))
                      refine ⟨hS918, ?_⟩
                      replace h2 := h2.only ho919 (Nat.ne_of_lt lt_g2_g9)
                      replace h5 := h5.only ho919 (Nat.ne_of_lt lt_g5_g9)
                      replace h8 := h8.only ho919 (Nat.ne_of_lt lt_g8_g9)
                      replace hy := hy.only ho919 (by omega)
                      replace hr131 := hr131.only ho919 (Nat.ne_of_gt lt_g9_g131)
                      replace hB := ho919.below hB ge_hB_g9
                      replace hG2 := hG2.only ho919 (.inr (List.mem_cons_of_mem _ p9))
                      replace h9 : row w919 g9 [.pointer (some ⟨g131, 0, none⟩)] 38 := h9
                      rw [show (c : Int) + 1 = ((c + 1 : Nat) : Int) by omega] at hr131
                      refine WA_done (by kernel_rfl) ?_
                      exact ⟨g131, ⟨rfl, rfl, rfl, rfl, rfl, rfl, rfl, rfl, rfl⟩, h2, h5, h8, h9, hr131, hG2, hB, by omega⟩
                  ·
                    clear h2 h5 h8 h9 hG2 hB hy
                    rintro y2 f wy ⟨h2, h5, h8, h9, hy2, hG2, hB, hy2w⟩
                    have hD2l := hP2.len
                    have hs31 := fun w' (h : LgAt g x None w.heap.size (y2 :: L) D2 (gP k (c + 1) (c + 1) []) w') => sectors31 h.fst (k + 1) (by omega) (by omega)
                    rw [show ((k + 1 : Nat) : Int) = 1 + (k : Int) by omega] at hs31
                    have hy2g : w.heap.size ≤ y2 := by omega
                    have hlk := fun w' (h : row w' y2 [.int .u64 ((c + 1 : Nat) : Int), .int .u64 ((c + 1 : Nat) : Int), .int .i64 (k : Int), .slice none 0 0, .int .i64 0] 43) (hG : LgAt g x None w.heap.size (y2 :: L) D2 (gP k (c + 1) (c + 1) []) w') => looks26 hG (S := []) (L := y2 :: L) (y := y2) (a := 0) ⟨⟨none, 0, [], h, AllL.nil _ _ _, by simp, by simp⟩, List.mem_cons_self .., hy2g⟩ rfl rfl rfl rfl rfl (Nat.zero_le _) (by omega)
                    refine W_seq ?_
                    refine W_region ?_
                    refine WR_val rfl (rn_load rfl (Ld.row1 h5 (by kernel_rfl) rfl)) ?_
                    refine WR_val rfl (rn_load rfl (Ld.row1 h2 (by kernel_rfl) rfl)) ?_
                    refine WR_val rfl (rn_add rfl rfl (Coup.w64 (by omega))) ?_
                    refine WR_ent rfl (rn_call (by kernel_rfl) rfl) (hs31 wy hG2) ?_
                    rintro _ w136 ⟨hu, hb136⟩
                    replace h2 := h2.new hb136
                    replace h5 := h5.new hb136
                    replace h8 := h8.new hb136
                    replace h9 := h9.new hb136
                    replace hG2 := hG2.new hb136
                    replace hy2 := hy2.new hb136
                    replace hB := hB.acc hb136
                    have hs136 := hu.form' (by omega)
                    obtain ⟨pu, ou, cu, rfl, hpu1, hpu2, hcu⟩ := hs136
                    refine WR_ent rfl (rn_call (by kernel_rfl) rfl) (saysNone hP2 hrd2 hrecs (by omega) (by omega) w136 _ _ cu hu hcu) ?_
                    rintro _ w137 ⟨⟨y3, pr, cr, rfl, hy3⟩, hb137⟩
                    replace h2 := h2.new hb137
                    replace h5 := h5.new hb137
                    replace h8 := h8.new hb137
                    replace h9 := h9.new hb137
                    replace hG2 := hG2.new hb137
                    replace hy2 := hy2.new hb137
                    replace hB := hB.acc hb137
                    refine WR_val rfl (rn_move) ?_
                    refine WR_val rfl (rn_extract rfl rfl) ?_
                    refine WR_val rfl (rn_extract rfl rfl) ?_
                    refine WR_val rfl (rn_assign) ?_
                    refine WR_val rfl (rn_assign) ?_
                    refine WR_nil ?_
                    refine thenN ?_
                    refine W_seq ?_
                    refine W_draw' [] (by kernel_rfl) ?_
                    intro w920 hb920 hS920
                    replace h2 := h2.new hb920
                    replace h5 := h5.new hb920
                    replace h8 := h8.new hb920
                    replace h9 := h9.new hb920
                    replace hG2 := hG2.new hb920
                    replace hy2 := hy2.new hb920
                    replace hy3 := hy3.new hb920
                    replace hB := hB.acc hb920
                    have h2_d920 := h2
                    have h5_d920 := h5
                    have h8_d920 := h8
                    have h9_d920 := h9
                    have hG2_d920 := hG2
                    have hy2_d920 := hy2
                    have hy3_d920 := hy3
                    have hB_d920 := hB
                    refine WA_take 0 (by kernel_rfl) rfl (fun _ _ => rn_move) ?_
                    refine WA_take 1 (by kernel_rfl) rfl (fun _ _ => rn_move) ?_
                    refine WA_fb 141 rfl (hGd) ?_
                    refine WA_take 2 (by kernel_rfl) rfl (fun w' hS' => rn_load rfl (Ld.row1 (h8_d920.kpd hS' (by first | (simp; done) | (simp; omega) | (simp [*]; done) | exact notLL (Or.inl (by omega)) | exact notLL (Or.inr (by simp)) | exact fun g hm => Nat.le_trans (by omega) (inLL hm).1 | (intro b o e; cases e; exact notLL (Or.inl (by omega))) | (intro b hm; have := (hu.lt b (Option.mem_toList.1 hm)).1; omega) | (intro b o e; cases e; intro hm; have := (hu.lt _ (Option.mem_toList.1 hm)).1; omega))) (by kernel_rfl) rfl)) ?_
                    refine WA_take 3 (by kernel_rfl) rfl (fun w' hS' => rn_load rfl (Ld.row1 (h9_d920.kpd hS' (by first | (simp; done) | (simp; omega) | (simp [*]; done) | exact notLL (Or.inl (by omega)) | exact notLL (Or.inr (by simp)) | exact fun g hm => Nat.le_trans (by omega) (inLL hm).1 | (intro b o e; cases e; exact notLL (Or.inl (by omega))) | (intro b hm; have := (hu.lt b (Option.mem_toList.1 hm)).1; omega) | (intro b o e; cases e; intro hm; have := (hu.lt _ (Option.mem_toList.1 hm)).1; omega))) (by kernel_rfl) rfl)) ?_
                    refine WA_one 4 (by kernel_rfl) ?_
                    refine WO_ent rfl rfl (rn_call (by kernel_rfl) rfl) (hlk w920 hy2 hG2) ?_
                    rintro _ w144 ⟨rfl, hb144⟩
                    have hS921 := hS920.add0 hb144
                    refine ⟨hS921, ?_⟩
                    replace h2 := h2.new hb144
                    replace h5 := h5.new hb144
                    replace h8 := h8.new hb144
                    replace h9 := h9.new hb144
                    replace hG2 := hG2.new hb144
                    replace hy2 := hy2.new hb144
                    replace hy3 := hy3.new hb144
                    replace hB := hB.acc hb144
                    refine WA_take 5 (by kernel_rfl) rfl (fun _ _ => rn_not rfl) ?_
                    refine WA_take 6 (by kernel_rfl) rfl (fun _ _ => rn_pick_f rfl) ?_
                    refine WA_take 7 (by kernel_rfl) rfl (fun _ _ => rn_move) ?_
                    refine WA_fnb 147 rfl (rfl) ?_
                    refine WA_take 8 (by kernel_rfl) rfl (fun _ _ => rn_move) ?_
                    refine WA_take 9 (by kernel_rfl) rfl (fun _ _ => rn_eqlP1 (by kernel_rfl) rfl rfl) ?_
                    refine WA_take 10 (by kernel_rfl) rfl (fun _ _ => rn_pick_f rfl) ?_
                    refine WA_take 11 (by kernel_rfl) rfl (fun _ _ => rn_move) ?_
                    refine WA_fb 151 rfl (rfl) ?_
                    refine WA_take 12 (by kernel_rfl) rfl (fun _ _ => rn_move) ?_
                    refine WA_take 13 (by kernel_rfl) rfl (fun _ _ => rn_nilCheckP rfl) ?_
                    refine WA_take 14 (by kernel_rfl) rfl (fun _ _ => rn_fieldAddr (off := 3) (by kernel_rfl) rfl) ?_
                    refine WA_take 15 (by kernel_rfl) rfl (fun w' hS' => rn_load rfl (Ld.row1 (hy3_d920.kpd hS' (by first | (simp; done) | (simp; omega) | (simp [*]; done) | exact notLL (Or.inl (by omega)) | exact notLL (Or.inr (by simp)) | exact fun g hm => Nat.le_trans (by omega) (inLL hm).1 | (intro b o e; cases e; exact notLL (Or.inl (by omega))) | (intro b hm; have := (hu.lt b (Option.mem_toList.1 hm)).1; omega) | (intro b o e; cases e; intro hm; have := (hu.lt _ (Option.mem_toList.1 hm)).1; omega))) (by kernel_rfl) rfl)) ?_
                    refine WA_take 16 (by kernel_rfl) rfl (fun _ _ => rn_lenSl (e := 60) (sz := 1) (by kernel_rfl) rfl rfl) ?_
                    refine WA_take 17 (by kernel_rfl) rfl (fun _ _ => rn_neq rfl rfl) ?_
                    refine WA_take 18 (by kernel_rfl) rfl (fun _ _ => rn_pick_f rfl) ?_
                    refine WA_take 19 (by kernel_rfl) rfl (fun _ _ => rn_move) ?_
                    refine WA_fp 159 rfl ((by simp)) ?_
                    refine WA_take 20 (by kernel_rfl) rfl (fun _ _ => rn_move) ?_
                    refine WA_take 21 (by kernel_rfl) rfl (fun _ _ => rn_nilCheckP rfl) ?_
                    refine WA_take 22 (by kernel_rfl) rfl (fun _ _ => rn_fieldAddr (off := 0) (by kernel_rfl) rfl) ?_
                    refine WA_take 23 (by kernel_rfl) rfl (fun w' hS' => rn_load rfl (Ld.row1 (hy3_d920.kpd hS' (by first | (simp; done) | (simp; omega) | (simp [*]; done) | exact notLL (Or.inl (by omega)) | exact notLL (Or.inr (by simp)) | exact fun g hm => Nat.le_trans (by omega) (inLL hm).1 | (intro b o e; cases e; exact notLL (Or.inl (by omega))) | (intro b hm; have := (hu.lt b (Option.mem_toList.1 hm)).1; omega) | (intro b o e; cases e; intro hm; have := (hu.lt _ (Option.mem_toList.1 hm)).1; omega))) (by kernel_rfl) rfl)) ?_
                    refine WA_take 24 (by kernel_rfl) rfl (fun w' hS' => rn_load rfl (Ld.row1 (h9_d920.kpd hS' (by first | (simp; done) | (simp; omega) | (simp [*]; done) | exact notLL (Or.inl (by omega)) | exact notLL (Or.inr (by simp)) | exact fun g hm => Nat.le_trans (by omega) (inLL hm).1 | (intro b o e; cases e; exact notLL (Or.inl (by omega))) | (intro b hm; have := (hu.lt b (Option.mem_toList.1 hm)).1; omega) | (intro b o e; cases e; intro hm; have := (hu.lt _ (Option.mem_toList.1 hm)).1; omega))) (by kernel_rfl) rfl)) ?_
                    refine WA_take 25 (by kernel_rfl) rfl (fun _ _ => rn_nilCheckP rfl) ?_
                    refine WA_take 26 (by kernel_rfl) rfl (fun _ _ => rn_fieldAddr (off := 0) (by kernel_rfl) rfl) ?_
                    refine WA_take 27 (by kernel_rfl) rfl (fun w' hS' => rn_load rfl (Ld.row1 (hy2_d920.kpd hS' (by first | (simp; done) | (simp; omega) | (simp [*]; done) | exact notLL (Or.inl (by omega)) | exact notLL (Or.inr (by simp)) | exact fun g hm => Nat.le_trans (by omega) (inLL hm).1 | (intro b o e; cases e; exact notLL (Or.inl (by omega))) | (intro b hm; have := (hu.lt b (Option.mem_toList.1 hm)).1; omega) | (intro b o e; cases e; intro hm; have := (hu.lt _ (Option.mem_toList.1 hm)).1; omega))) (by kernel_rfl) rfl)) ?_
                    refine WA_take 28 (by kernel_rfl) rfl (fun _ _ => rn_neq rfl rfl) ?_
                    refine WA_take 29 (by kernel_rfl) rfl (fun _ _ => rn_pick_f rfl) ?_
                    refine WA_done (by kernel_rfl) ?_
                    refine thenN ?_
                    refine W_fp rfl ((by simp)) ?_
                    refine W_skip ?_
                    refine blockN ?_
                    refine blockN ?_
                    refine thenN ?_
                    refine W_region ?_
                    refine WR_val rfl (rn_move) ?_
                    refine WR_val rfl (rn_add rfl rfl (Coup.w64 (by omega))) ?_
                    refine WR_val rfl (rn_assign) ?_
                    refine WR_nil ?_
                    have hst4 : StP w.heap.size g2 g5 g8 g9 k g (2 + 3 * i + 1) w144 := ⟨D2, c + 1, y2 :: L, [y2], some ⟨x, 0, none⟩, y2, c + 1, c + 1, [], hP2, hG2.fst, ⟨h2, h5, h8, h9, List.mem_cons_of_mem _ p2, List.mem_cons_of_mem _ p5, List.mem_cons_of_mem _ p8, List.mem_cons_of_mem _ p9, ⟨q2', q5', q8', q9'⟩, ⟨n1, n2, n3, n5, n6, n7⟩⟩, ⟨⟨none, 0, [], hy2, AllL.nil _ _ _, by simp, by simp⟩, List.mem_cons_self .., by omega⟩, (fun b hb => by
                      rw [List.mem_singleton.1 hb]
                      refine ⟨List.mem_cons_self .., fun hm => ?_⟩
                      simp only [List.mem_cons, List.not_mem_nil, or_false] at hm
                      omega), .inr ⟨x, _, rfl, hG2, .inr ⟨rfl, hd2, rfl, Nat.zero_le _, Nat.zero_le _, by omega, Nat.le_refl _, by omega⟩⟩⟩
                    refine loopN ⟨i + 1, by omega, ⟨by go_num, rfl, rfl, rfl, rfl, rfl, rfl, rfl⟩, by omega, hst4.up (by omega), hB⟩
            ·
              refine W_seq ?_
              refine W_region ?_
              refine WR_val rfl (rn_eql rfl rfl) ?_
              refine WR_val rfl (rn_assign) ?_
              refine WR_nil ?_
              refine thenN ?_
              refine W_ifp rfl (fun hk3 => ?_) (fun hk3 => ?_)
              ·
                refine W_seq ?_
                have hst := (hst0.new hBr).toW
                refine W_region ?_
                refine WR_val rfl (rn_move) ?_
                refine WR_ent rfl (rn_callc (by kernel_rfl) rfl rfl) (hst.open_ (by omega) (by omega) (by omega)) ?_
                rintro _ w173 ⟨rfl, hst2, hb173⟩
                replace hB := belLL hB hb173 (by omega)
                refine WR_val rfl (rn_not rfl) ?_
                refine WR_nil ?_
                refine thenN ?_
                refine W_fnb rfl ((by simp)) ?_
                refine W_skip ?_
                refine blockN ?_
                refine blockN ?_
                refine thenN ?_
                refine W_region ?_
                refine WR_val rfl (rn_move) ?_
                refine WR_val rfl (rn_add rfl rfl (Coup.w64 (by omega))) ?_
                refine WR_val rfl (rn_assign) ?_
                refine WR_nil ?_
                refine loopN ⟨i + 1, by omega, ⟨by go_num, rfl, rfl, rfl, rfl, rfl, rfl, rfl⟩, by omega, hst2.up (by omega), hB⟩
              ·
                refine W_seq ?_
                refine W_region ?_
                refine WR_val rfl (rn_eql rfl rfl) ?_
                refine WR_val rfl (rn_assign) ?_
                refine WR_nil ?_
                refine thenN ?_
                refine W_ifp rfl (fun hk4 => ?_) (fun hk4 => ?_)
                ·
                  have hst := hst0.new hBr
                  have hst' := hst
                  have hobt := hst'
                  obtain ⟨D, m, L, Lw, vx, y, c, s, S, hP, hD, hcl, hW, hLw, hx2⟩ := hobt
                  refine W_region ?_
                  refine WR_val rfl (rn_load rfl (Ld.row1 hcl.r5 (by kernel_rfl) rfl)) ?_
                  refine WR_val rfl (rn_fieldAddr (off := 1) (by kernel_rfl) rfl) ?_
                  refine WR_val rfl (rn_load rfl (Ld.row1 hr12 (by kernel_rfl) rfl)) ?_
                  refine WR_ent rfl (rn_call (by kernel_rfl) rfl) (hst.fuse a.n hwn.2) ?_
                  rintro _ w180 ⟨⟨fe, rfl⟩, hst2, hb180⟩
                  replace hB := belLL hB hb180 (by omega)
                  refine WR_nil ?_
                  refine blockN ?_
                  refine blockN ?_
                  refine thenN ?_
                  refine W_region ?_
                  refine WR_val rfl (rn_move) ?_
                  refine WR_val rfl (rn_add rfl rfl (Coup.w64 (by omega))) ?_
                  refine WR_val rfl (rn_assign) ?_
                  refine WR_nil ?_
                  refine loopN ⟨i + 1, by omega, ⟨by go_num, rfl, rfl, rfl, rfl, rfl, rfl, rfl⟩, by omega, hst2.up (by omega), hB⟩
                ·
                  refine W_seq ?_
                  refine W_region ?_
                  refine WR_val rfl (rn_eql rfl rfl) ?_
                  refine WR_val rfl (rn_assign) ?_
                  refine WR_nil ?_
                  refine thenN ?_
                  refine W_ifp rfl (fun hk5 => ?_) (fun hk5 => ?_)
                  ·
                    refine W_seq ?_
                    have hst := hst0.new hBr
                    have hst' := hst
                    have hobt := hst'
                    obtain ⟨D, m, L, Lw, vx, y, c, s, S, hP, hD, hcl, hW, hLw, hx2⟩ := hobt
                    have hpk2 := hq2.below hB (Nat.le_refl _)
                    refine W_region ?_
                    refine WR_val rfl (rn_load rfl (Ld.row1 hcl.r5 (by kernel_rfl) rfl)) ?_
                    refine WR_val rfl (rn_fieldAddr (off := 3) (by kernel_rfl) rfl) ?_
                    refine WR_val rfl (rn_load rfl (Ld.row1 hr12 (by kernel_rfl) rfl)) ?_
                    refine WR_ent rfl (rn_call (by kernel_rfl) rfl) (hst.crash q2 a.picks.length c2 a.picks hpk2 (fun h0 b o e ↦ by obtain ⟨_, _, e2, h3⟩ := hq2.some (by omega); rw [e] at e2; cases e2; exact h3)) ?_
                    rintro _ w186 ⟨rfl, hstw, hb186⟩
                    replace hB := belLL hB hb186 (by omega)
                    refine WR_val rfl (rn_neq rfl rfl) ?_
                    refine WR_val rfl (rn_move) ?_
                    refine WR_fp 188 rfl ((by simp)) ?_
                    refine WR_yes rfl ?_
                    refine WR_val rfl (rn_move) ?_
                    refine WR_yes rfl ?_
                    refine WR_ent rfl (rn_callc (by kernel_rfl) rfl rfl) (hstw.open_ (by omega) (by omega) (by omega)) ?_
                    rintro _ w190 ⟨rfl, hst2, hb190⟩
                    replace hB := belLL hB hb190 (by omega)
                    refine WR_yes rfl ?_
                    refine WR_val rfl (rn_not rfl) ?_
                    refine WR_val rfl (rn_pick_f rfl) ?_
                    refine WR_nil ?_
                    refine thenN ?_
                    refine W_fnb rfl ((by simp)) ?_
                    refine W_skip ?_
                    refine blockN ?_
                    refine blockN ?_
                    refine thenN ?_
                    refine W_region ?_
                    refine WR_val rfl (rn_move) ?_
                    refine WR_val rfl (rn_add rfl rfl (Coup.w64 (by omega))) ?_
                    refine WR_val rfl (rn_assign) ?_
                    refine WR_nil ?_
                    refine loopN ⟨i + 1, by omega, ⟨by go_num, rfl, rfl, rfl, rfl, rfl, rfl, rfl⟩, by omega, hst2.up (by omega), hB⟩
                  ·
                    refine W_skip ?_
                    refine blockN ?_
                    refine blockN ?_
                    refine thenN ?_
                    refine W_region ?_
                    refine WR_val rfl (rn_move) ?_
                    refine WR_val rfl (rn_add rfl rfl (Coup.w64 (by omega))) ?_
                    refine WR_val rfl (rn_assign) ?_
                    refine WR_nil ?_
                    refine loopN ⟨i + 1, by omega, ⟨by go_num, rfl, rfl, rfl, rfl, rfl, rfl, rfl⟩, by omega, (hst0.new hBr).up (by omega), hB⟩
        ·
          refine W_exit ?_
          refine thenX ?_
          refine loopX ?_
          refine blockX ?_
          refine thenN ?_
          refine W_seq ?_
          refine W_region ?_
          refine WR_ent rfl (rn_call (by kernel_rfl) rfl) (known7 wr) ?_
          rintro _ w193 ⟨rfl, hb193⟩
          replace hB := hB.acc hb193
          refine WR_val rfl (rn_assign) ?_
          refine WR_nil ?_
          refine thenN ?_
          refine W_ret ?_
          refine ret_ret [_] ⟨rfl, trivial⟩ ?_
          exact ⟨rfl, hB⟩
end Go.Proofs.YtkkgahgpemepeaaGreat
