/- Heaps of what was lost: Go's up and down, pushed into, popped. -/
import Derived.Test.YtknjiohhlemeiaaFareH
namespace Go.Proofs.Ytknjiohhlemeiaa
open Go Go.RowKit Coup

theorem quo_par (j : Nat) (h : j ≤ 100000) : IntKind.i64.wrap (((j : Int) - 1).tdiv 2) = (((j - 1) / 2 : Nat) : Int) := by
  rcases Nat.eq_zero_or_pos j with rfl | h0
  · decide
  · rw [qd (by omega), w64 (by omega)]; omega
theorem HpAt.lt {w : World} {B gl : Nat} {H : List LossT} (h : HpAt w B gl H) : B ≤ gl ∧ gl < w.heap.size := by
  obtain ⟨h0, p, c, h1, _⟩ := h
  exact ⟨h0, h1.lt⟩
/-- A call of the heap's Less. -/
theorem HpAt.less {w : World} {B gl : Nat} {H : List LossT} (h : HpAt w B gl H) {i j : Nat} (hi : i < H.length) (hj : j < H.length) : ∃ p c, Ld Try.prog w 54 ⟨gl, 0, none⟩ (.slice p H.length c) ∧
    Calls Try.prog 73 [.slice p H.length c, .int .i64 (i : Int), .int .i64 (j : Int)].toArray w (Ret fun v w' => v = .bool (decide (ltH (at0 H i) (at0 H j))) ∧ Below w.heap.size w w') := by
  obtain ⟨h0, p, c, h1, h2, h3⟩ := h
  exact ⟨p, c, Ld.row1 h1 (by kernel_rfl) rfl, less73 H p _ c i j w h2.sl hi hj⟩
theorem HpAt.swap {w : World} {B gl : Nat} {H : List LossT} (h : HpAt w B gl H) {i j : Nat} (hi : i < H.length) (hj : j < H.length) : ∃ p c, Ld Try.prog w 54 ⟨gl, 0, none⟩ (.slice p H.length c) ∧
    Calls Try.prog 76 [.slice p H.length c, .int .i64 (i : Int), .int .i64 (j : Int)].toArray w (Ret fun _ w' => HpAt w' B gl (swapH H i j) ∧ Below B w w') := by
  obtain ⟨h0, p, c, h1, h2, h3⟩ := h
  obtain ⟨g, o, c', he, hg1, hg2, hc⟩ := h2.form' (by omega)
  cases he
  have hne : g ≠ gl := fun e => h3 (by simp [Value.ownBlock, e])
  have hl1 := h1.lt
  refine ⟨_, c, Ld.row1 h1 (by kernel_rfl) rfl, (swap76 H g o _ c i j B w h2 hi hj).to fun v w' ⟨a, b⟩ => ⟨⟨h0, some ⟨g, o, none⟩, c, ?_, ?_, ?_⟩, b.toB (by simpa using hg1) (by omega)⟩⟩
  · rw [swapH_len]; exact h1.kpd b (by simpa using Ne.symm hne)
  · rw [swapH_len]; exact a
  · rw [swapH_len]; exact h3
theorem HpAt.len {w : World} {B gl : Nat} {H : List LossT} (h : HpAt w B gl H) : ∃ p c, Ld Try.prog w 54 ⟨gl, 0, none⟩ (.slice p H.length c) := by
  obtain ⟨h0, p, c, h1, h2, h3⟩ := h
  exact ⟨p, c, Ld.row1 h1 (by kernel_rfl) rfl⟩

theorem up40 (H : List LossT) (gl B j : Nat) (w : World) (h : HpAt w B gl H) (hu : UpI H j) (hn : H.length ≤ 1000) :
    Calls Try.prog 40 [ifL gl, .int .i64 (j : Int)].toArray w (Ret fun _ w' => ∃ H', HpAt w' B gl H' ∧ H'.Perm H ∧ HeapB H' H'.length ∧ Below B w w') := by
  have hBB : BelB B w w := BelB.refl (by have := h.lt; omega)
  have hnl : H.length = H.length := rfl
  generalize hN : H.length = N at hnl
  clear hnl
  refine calls_W (fn := Try.f40) (rs := []) (n := 23) Try.func40 rfl rfl Try.ntmps40 (by kernel_rfl) rfl ?_
  refine W_block ?_
  refine W_loop (α := List LossT × Nat) (H, j) (fun k => [(0, ifL gl), (1, .int .i64 (k.2 : Nat))]) (fun k w' => HpAt w' B gl k.1 ∧ UpI k.1 k.2 ∧ k.1.Perm H ∧ BelB B w w') (fun k => k.2)
    ⟨rfl, rfl, rfl⟩ ⟨h, hu, .refl _, hBB⟩ ?_
  rintro ⟨H1, i⟩ f wr ⟨h1, hu1, hp1, hBB⟩
  simp only at h1 hu1 hp1
  dsimp only
  have hl1 := hp1.length_eq
  have hult := hu1.lt
  refine W_block ?_
  refine W_seq ?_
  refine W_region ?_
  refine WR_val rfl (rn_move) ?_
  refine WR_val rfl (rn_sub rfl rfl (Coup.w64 (by omega))) ?_
  refine WR_val rfl (rn_quo rfl rfl (by omega) (quo_par i (by omega))) ?_
  refine WR_val rfl (rn_assign) ?_
  refine WR_nil ?_
  refine thenN ?_
  refine W_seq ?_
  refine W_seq ?_
  refine W_region ?_
  refine WR_val rfl (rn_move) ?_
  refine WR_val rfl (rn_move) ?_
  refine WR_val rfl (rn_eql rfl rfl) ?_
  refine WR_val rfl (rn_move) ?_
  refine WR_part 11 rfl (fun hij => ?_) (fun hij => ?_)
  ·
    refine WR_no rfl rfl ?_
    refine WR_no rfl rfl ?_
    refine WR_no rfl rfl ?_
    refine WR_no rfl rfl ?_
    refine WR_no rfl rfl ?_
    refine WR_val rfl (rn_pick_t rfl) ?_
    refine WR_nil ?_
    refine thenN ?_
    refine W_t rfl ?_
    refine W_exit ?_
    refine thenX ?_
    refine blockO rfl ?_
    refine loopX ?_
    refine blockX ?_
    refine ret_normal [] trivial ?_
    have hz : i = 0 := by omega
    refine ⟨H1, h1, hp1, hu1.done (Or.inl hz), hBB.bel⟩
  ·
    have hL := h1.less (i := i) (j := (i - 1) / 2) (by omega) (by omega)
    obtain ⟨p, c, hld, hcl⟩ := hL
    refine WR_yes rfl ?_
    refine WR_val rfl (rn_move) ?_
    refine WR_yes rfl ?_
    refine WR_val rfl (rn_move) ?_
    refine WR_yes rfl ?_
    refine WR_val rfl (rn_move) ?_
    refine WR_yes rfl ?_
    refine WR_ent rfl (rn_invokeV m_less (by kernel_rfl) rfl (hld) rfl) (hcl) ?_
    rintro _ w15 ⟨rfl, hb15⟩
    replace h1 := h1.new hb15
    replace hBB := hBB.acc hb15
    refine WR_yes rfl ?_
    refine WR_val rfl (rn_not rfl) ?_
    refine WR_val rfl (rn_pick_f rfl) ?_
    refine WR_nil ?_
    refine thenN ?_
    refine W_ifnb rfl (fun hb => ?_) (fun hb => ?_)
    ·
      refine W_exit ?_
      refine thenX ?_
      refine blockO rfl ?_
      refine loopX ?_
      refine blockX ?_
      refine ret_normal [] trivial ?_
      refine ⟨H1, h1, hp1, hu1.done (Or.inr (by simpa using hb)), hBB.bel⟩
    ·
      have hS := h1.swap (i := (i - 1) / 2) (j := i) (by omega) (by omega)
      obtain ⟨p2, c2, hld2, hcl2⟩ := hS
      refine W_skip ?_
      refine thenN ?_
      refine W_seq ?_
      refine W_region ?_
      refine WR_val rfl (rn_move) ?_
      refine WR_val rfl (rn_move) ?_
      refine WR_val rfl (rn_move) ?_
      refine WR_ent rfl (rn_invokeV m_swap (by kernel_rfl) rfl (hld2) rfl) (hcl2) ?_
      rintro _ w21 ⟨h1', hb21⟩
      replace hBB := hBB.tr hb21
      refine WR_nil ?_
      refine thenN ?_
      refine W_region ?_
      refine WR_val rfl (rn_move) ?_
      refine WR_val rfl (rn_assign) ?_
      refine WR_nil ?_
      refine blockN ?_
      have hij2 : 0 < i := by omega
      refine loopN ⟨(swapH H1 ((i - 1) / 2) i, (i - 1) / 2), by simp only; omega, ⟨rfl, rfl, rfl⟩, h1', hu1.step hij2 (by simpa using hb), (swapH_perm (by omega) (by omega)).trans hp1, hBB⟩
theorem heapPush (H : List LossT) (gl B a b : Nat) (w : World) (h : HpAt w B gl H) (hh : HeapB H H.length) (hn : H.length < 1000) :
    Calls Try.prog 30 [ifL gl, .iface 60 (.agg #[.int .u64 (a : Int), .int .i64 (b : Int)])].toArray w (Ret fun _ w' => ∃ H', HpAt w' B gl H' ∧ H'.Perm (H ++ [(a, b)]) ∧ HeapB H' H'.length ∧ Below B w w') := by
  have hBB : BelB B w w := BelB.refl (by have := h.lt; omega)
  refine calls_W (fn := Try.f30) (rs := []) (n := 12) Try.func30 rfl rfl Try.ntmps30 (by kernel_rfl) rfl ?_
  refine W_seq ?_
  refine W_region ?_
  refine WR_val rfl (rn_move) ?_
  refine WR_val rfl (rn_move) ?_
  refine WR_ent rfl (rn_invokeP m_push (by kernel_rfl) rfl rfl) (push75 H gl B a b w h (by omega)) ?_
  rintro _ w6 ⟨h2, hb6⟩
  replace hBB := hBB.tr hb6
  obtain ⟨p, c, hld⟩ := h2.len
  rw [List.length_append] at hld
  have hld : Ld Try.prog w6 54 ⟨gl, 0, none⟩ (.slice p (H.length + 1) c) := hld
  refine WR_nil ?_
  refine thenN ?_
  refine W_region ?_
  refine WR_val rfl (rn_move) ?_
  refine WR_val rfl (rn_move) ?_
  refine WR_ent rfl (rn_invokeV m_len (by kernel_rfl) rfl (hld) rfl) (len72 p (H.length + 1) c w6) ?_
  rintro _ _ ⟨rfl, rfl⟩
  refine WR_val rfl (rn_sub rfl rfl (show IntKind.i64.wrap (((H.length + 1 : Nat) : Int) - 1) = (H.length : Nat) by rw [w64 (by omega)]; omega)) ?_
  refine WR_ent rfl (rn_call (by kernel_rfl) rfl) (up40 (H ++ [(a, b)]) gl B H.length w6 h2 (heap_snoc hh (a, b)) (by simp; omega)) ?_
  rintro _ w11 ⟨H', h3, hp3, hh3, hb11⟩
  refine WR_nil ?_
  refine ret_normal [] trivial ?_
  exact ⟨H', h3, hp3, hh3, (hBB.tr hb11).bel⟩
theorem down46 (H : List LossT) (gl B n : Nat) (w : World) (h : HpAt w B gl H) (hd : DownI H 0 n) (hn : H.length ≤ 1000) :
    Calls Try.prog 46 [ifL gl, .int .i64 ((0 : Nat) : Int), .int .i64 (n : Int)].toArray w (Ret fun _ w' => ∃ H', HpAt w' B gl H' ∧ H'.Perm H ∧ HeapB H' n ∧ (∀ k, n ≤ k → at0 H' k = at0 H k) ∧ Below B w w') := by
  have hBB : BelB B w w := BelB.refl (by have := h.lt; omega)
  have hdl := hd.lt
  refine calls_W (fn := Try.f46) (rs := [.tmp 6]) (n := 48) Try.func46 rfl rfl Try.ntmps46 (by kernel_rfl) rfl ?_
  refine W_seq ?_
  refine W_region ?_
  refine WR_val rfl (rn_assign) ?_
  refine WR_nil ?_
  refine thenN ?_
  refine W_seq ?_
  refine W_region ?_
  refine WR_val rfl (rn_move) ?_
  refine WR_val rfl (rn_assign) ?_
  refine WR_nil ?_
  refine thenN ?_
  refine W_seq ?_
  refine W_block ?_
  refine W_loop (α := List LossT × Nat) (H, 0) (fun k => [(0, ifL gl), (1, .int .i64 ((0 : Nat) : Int)), (2, .int .i64 (n : Nat)), (7, .int .i64 (k.2 : Nat))]) (fun k w' => HpAt w' B gl k.1 ∧ DownI k.1 k.2 n ∧ k.1.Perm H ∧ (∀ m, n ≤ m → at0 k.1 m = at0 H m) ∧ k.2 ≤ n ∧ BelB B w w') (fun k => n - k.2)
    ⟨rfl, rfl, rfl, rfl, rfl⟩ ⟨h, hd, .refl _, fun _ _ => rfl, Nat.zero_le _, hBB⟩ ?_
  rintro ⟨H1, i⟩ f wr ⟨h1, hd1, hp1, hr1, hin, hBB⟩
  simp only at h1 hd1 hp1 hr1 hin
  dsimp only
  have hl1 := hp1.length_eq
  have hdl1 := hd1.lt
  refine W_block ?_
  refine W_seq ?_
  refine W_region ?_
  refine WR_val rfl (rn_move) ?_
  refine WR_val rfl (rn_mul rfl rfl (Coup.w64 (by omega))) ?_
  refine WR_val rfl (rn_add rfl rfl (show IntKind.i64.wrap (2 * (i : Int) + 1) = ((2 * i + 1 : Nat) : Int) by rw [w64 (by omega)]; omega)) ?_
  refine WR_val rfl (rn_assign) ?_
  refine WR_nil ?_
  refine thenN ?_
  refine W_seq ?_
  refine W_seq ?_
  refine W_region ?_
  refine WR_val rfl (rn_move) ?_
  refine WR_val rfl (rn_move) ?_
  refine WR_val rfl (rn_geq rfl rfl) ?_
  refine WR_val rfl (rn_move) ?_
  refine WR_part 18 rfl (fun hge => ?_) (fun hge => ?_)
  ·
    refine WR_no rfl rfl ?_
    refine WR_no rfl rfl ?_
    refine WR_val rfl (rn_pick_t rfl) ?_
    refine WR_nil ?_
    refine thenN ?_
    refine W_t rfl ?_
    refine W_exit ?_
    refine thenX ?_
    refine blockO rfl ?_
    refine loopX ?_
    refine blockX ?_
    refine thenN ?_
    refine W_seq ?_
    refine W_region ?_
    refine WR_val rfl (rn_move) ?_
    refine WR_val rfl (rn_move) ?_
    refine WR_val rfl (rn_gtr rfl rfl) ?_
    refine WR_val rfl (rn_assign) ?_
    refine WR_nil ?_
    refine thenN ?_
    refine W_ret ?_
    refine ret_ret [_] ⟨rfl, trivial⟩ ?_
    exact ⟨H1, h1, hp1, hd1.done0 (by omega), hr1, hBB.bel⟩
  ·
    refine WR_yes rfl ?_
    refine WR_val rfl (rn_move) ?_
    refine WR_yes rfl ?_
    refine WR_val rfl (rn_lss rfl rfl) ?_
    refine WR_val rfl (rn_pick_f rfl) ?_
    refine WR_nil ?_
    refine thenN ?_
    refine W_fp rfl ((by omega)) ?_
    refine W_skip ?_
    refine thenN ?_
    refine W_seq ?_
    refine W_region ?_
    refine WR_val rfl (rn_move) ?_
    refine WR_val rfl (rn_assign) ?_
    refine WR_nil ?_
    refine thenN ?_
    refine W_cut (fun j : Nat => [(9, .int .i64 (j : Nat)), (0, ifL gl), (1, .int .i64 ((0 : Nat) : Int)), (2, .int .i64 (n : Nat)), (7, .int .i64 (i : Nat))]) (fun j w' => (j = 2 * i + 1 ∨ j = 2 * i + 2) ∧ j < n ∧ ¬ ltH (at0 H1 (2 * i + 1)) (at0 H1 j) ∧ (2 * i + 2 < n → ¬ ltH (at0 H1 (2 * i + 2)) (at0 H1 j)) ∧ HpAt w' B gl H1 ∧ BelB B w w') ?_ ?_
    ·
      refine W_seq ?_
      refine W_region ?_
      refine WR_val rfl (rn_move) ?_
      refine WR_val rfl (rn_add rfl rfl (show IntKind.i64.wrap (((2 * i + 1 : Nat) : Int) + 1) = ((2 * i + 2 : Nat) : Int) by rw [w64 (by omega)]; omega)) ?_
      refine WR_val rfl (rn_assign) ?_
      refine WR_nil ?_
      refine thenN ?_
      refine W_seq ?_
      refine W_region ?_
      refine WR_val rfl (rn_move) ?_
      refine WR_val rfl (rn_move) ?_
      refine WR_val rfl (rn_lss rfl rfl) ?_
      refine WR_val rfl (rn_move) ?_
      refine WR_part 28 rfl (fun h2n => ?_) (fun h2n => ?_)
      ·
        refine WR_yes rfl ?_
        refine WR_val rfl (rn_move) ?_
        refine WR_yes rfl ?_
        refine WR_val rfl (rn_move) ?_
        refine WR_yes rfl ?_
        refine WR_val rfl (rn_move) ?_
        refine WR_yes rfl ?_
        have hobt := h1.less (i := 2 * i + 2) (j := 2 * i + 1) (by omega) (by omega)
        obtain ⟨p, c, hld, hcl⟩ := hobt
        refine WR_ent rfl (rn_invokeV m_less (by kernel_rfl) rfl (hld) rfl) (hcl) ?_
        rintro _ w32 ⟨rfl, hb32⟩
        replace h1 := h1.new hb32
        replace hBB := hBB.acc hb32
        refine WR_val rfl (rn_pick_t rfl) ?_
        refine WR_nil ?_
        refine thenN ?_
        refine W_if rfl (fun hb => ?_) (fun hb => ?_)
        ·
          refine W_region ?_
          refine WR_val rfl (rn_move) ?_
          refine WR_val rfl (rn_assign) ?_
          refine WR_nil ?_
          refine loopN ⟨2 * i + 2, ⟨rfl, rfl, rfl, rfl, rfl, rfl⟩, Or.inr rfl, by omega, ?_, fun _ => ?_, h1, hBB⟩
          · have hb := of_decide_eq_true hb; revert hb; unfold ltH; omega
          · unfold ltH; omega
        ·
          refine W_skip ?_
          refine loopN ⟨2 * i + 1, ⟨rfl, rfl, rfl, rfl, rfl, rfl⟩, Or.inl rfl, by omega, ?_, fun _ => of_decide_eq_false hb, h1, hBB⟩
          unfold ltH; omega
      ·
        refine WR_no rfl rfl ?_
        refine WR_no rfl rfl ?_
        refine WR_no rfl rfl ?_
        refine WR_no rfl rfl ?_
        refine WR_val rfl (rn_pick_f rfl) ?_
        refine WR_nil ?_
        refine thenN ?_
        refine W_f rfl ?_
        refine W_skip ?_
        refine loopN ⟨2 * i + 1, ⟨rfl, rfl, rfl, rfl, rfl, rfl⟩, Or.inl rfl, by omega, ?_, fun h => by omega, h1, hBB⟩
        unfold ltH; omega
    ·
      rintro j f2 wz ⟨hj, hjn, ha, hb2, h1, hBB⟩
      have hL := h1.less (i := j) (j := i) (by omega) (by omega)
      obtain ⟨p, c, hld, hcl⟩ := hL
      refine W_seq ?_
      refine W_seq ?_
      refine W_region ?_
      refine WR_val rfl (rn_move) ?_
      refine WR_val rfl (rn_move) ?_
      refine WR_val rfl (rn_move) ?_
      refine WR_ent rfl (rn_invokeV m_less (by kernel_rfl) rfl (hld) rfl) (hcl) ?_
      rintro _ w38 ⟨rfl, hb38⟩
      replace h1 := h1.new hb38
      replace hBB := hBB.acc hb38
      refine WR_val rfl (rn_not rfl) ?_
      refine WR_nil ?_
      refine thenN ?_
      refine W_ifnb rfl (fun hb => ?_) (fun hb => ?_)
      ·
        refine W_exit ?_
        refine thenX ?_
        refine blockO rfl ?_
        refine loopX ?_
        refine blockX ?_
        refine thenN ?_
        refine W_seq ?_
        refine W_region ?_
        refine WR_val rfl (rn_move) ?_
        refine WR_val rfl (rn_move) ?_
        refine WR_val rfl (rn_gtr rfl rfl) ?_
        refine WR_val rfl (rn_assign) ?_
        refine WR_nil ?_
        refine thenN ?_
        refine W_ret ?_
        refine ret_ret [_] ⟨rfl, trivial⟩ ?_
        exact ⟨H1, h1, hp1, hd1.done hj hjn ha hb2 (of_decide_eq_false hb), hr1, hBB.bel⟩
      ·
        have hS := h1.swap (i := i) (j := j) (by omega) (by omega)
        obtain ⟨p2, c2, hld2, hcl2⟩ := hS
        refine W_skip ?_
        refine thenN ?_
        refine W_seq ?_
        refine W_region ?_
        refine WR_val rfl (rn_move) ?_
        refine WR_val rfl (rn_move) ?_
        refine WR_val rfl (rn_move) ?_
        refine WR_ent rfl (rn_invokeV m_swap (by kernel_rfl) rfl (hld2) rfl) (hcl2) ?_
        rintro _ w43 ⟨h1', hb43⟩
        replace hBB := hBB.tr hb43
        refine WR_nil ?_
        refine thenN ?_
        refine W_region ?_
        refine WR_val rfl (rn_move) ?_
        refine WR_val rfl (rn_assign) ?_
        refine WR_nil ?_
        refine blockN ?_
        have hb := of_decide_eq_true hb
        refine loopN ⟨(swapH H1 i j, j), by simp only; omega, ⟨rfl, rfl, rfl, rfl, rfl⟩, h1', hd1.step hj hjn ha hb2 hb, (swapH_perm (by omega) (by omega)).trans hp1, fun m hm => ?_, by simp only; omega, hBB⟩
        rw [swapH_at (by omega) (by omega), if_neg (by omega), if_neg (by omega)]
        exact hr1 m hm
theorem at0_zero (x : LossT) (H : List LossT) : at0 (x :: H) 0 = x := rfl
theorem perm_last {H : List LossT} {n : Nat} (h : H.length = n + 1) : (at0 H n :: H.take n).Perm H := by
  have h1 : H = H.take n ++ [at0 H n] := by
    have := take_snoc (at0_get (H := H) (i := n) (by omega))
    rw [← this, List.take_of_length_le (by omega)]
  have h2 : (H.take n ++ [at0 H n]).Perm (at0 H n :: H.take n) := List.perm_append_comm
  exact h2.symm.trans (List.Perm.of_eq h1.symm)
theorem heapPop (H : List LossT) (gl B n : Nat) (w : World) (h : HpAt w B gl H) (hh : HeapB H H.length) (hn : H.length = n + 1) (hmx : n < 1000) :
    Calls Try.prog 41 [ifL gl].toArray w (Ret fun v w' => v = .iface 60 (.agg #[.int .u64 ((at0 H 0).1 : Int), .int .i64 ((at0 H 0).2 : Int)]) ∧ ∃ H', HpAt w' B gl H' ∧ (at0 H 0 :: H').Perm H ∧ HeapB H' H'.length ∧ Below B w w') := by
  have hBB : BelB B w w := BelB.refl (by have := h.lt; omega)
  obtain ⟨p, c, hld⟩ := h.len
  rw [hn] at hld
  have hS := h.swap (i := 0) (j := n) (by omega) (by omega)
  obtain ⟨p2, c2, hld2, hcl2⟩ := hS
  refine calls_W (fn := Try.f41) (rs := [.tmp 2]) (n := 15) Try.func41 rfl rfl Try.ntmps41 (by kernel_rfl) rfl ?_
  refine W_seq ?_
  refine W_region ?_
  refine WR_val rfl (rn_assign) ?_
  refine WR_nil ?_
  refine thenN ?_
  refine W_seq ?_
  refine W_region ?_
  refine WR_val rfl (rn_move) ?_
  refine WR_ent rfl (rn_invokeV m_len (by kernel_rfl) rfl (hld) rfl) (len72 p (n + 1) c w) ?_
  rintro _ _ ⟨rfl, rfl⟩
  refine WR_val rfl (rn_sub rfl rfl (show IntKind.i64.wrap (((n + 1 : Nat) : Int) - 1) = (n : Nat) by rw [w64 (by omega)]; omega)) ?_
  refine WR_val rfl (rn_assign) ?_
  refine WR_nil ?_
  refine thenN ?_
  refine W_seq ?_
  refine W_region ?_
  refine WR_val rfl (rn_move) ?_
  refine WR_val rfl (rn_move) ?_
  refine WR_ent rfl (rn_invokeV m_swap (by kernel_rfl) rfl (hld2) rfl) (hcl2) ?_
  rintro _ w9 ⟨h1, hb9⟩
  replace hBB := hBB.tr hb9
  refine WR_nil ?_
  refine thenN ?_
  refine W_seq ?_
  refine W_region ?_
  refine WR_val rfl (rn_move) ?_
  refine WR_val rfl (rn_move) ?_
  refine WR_ent rfl (rn_call (by kernel_rfl) rfl) (down46 (swapH H 0 n) gl B n w9 h1 (heap_pop hh hn) (by rw [swapH_len]; omega)) ?_
  rintro _ w12 ⟨H2, h2, hp2, hh2, hr2, hb12⟩
  replace hBB := hBB.tr hb12
  have hl2 : H2.length = n + 1 := by rw [hp2.length_eq, swapH_len, hn]
  have hlast : at0 H2 n = at0 H 0 := by rw [hr2 n (Nat.le_refl _), swapH_at (by omega) (by omega), if_pos rfl]
  refine WR_nil ?_
  refine thenN ?_
  refine W_seq ?_
  refine W_region ?_
  refine WR_val rfl (rn_move) ?_
  refine WR_ent rfl (rn_invokeP m_pop (by kernel_rfl) rfl rfl) (pop74 H2 gl B n w12 h2 hl2 (by omega)) ?_
  rintro _ w14 ⟨rfl, h3, hb14⟩
  refine WR_val rfl (rn_assign) ?_
  refine WR_nil ?_
  refine thenN ?_
  refine W_ret ?_
  refine ret_ret [_] ⟨rfl, trivial⟩ ?_
  rw [← hlast]
  refine ⟨rfl, H2.take n, h3, ((perm_last hl2).trans hp2).trans (swapH_perm (by omega) (by omega)), ?_, (hBB.tr hb14).bel⟩
  rw [List.length_take, hl2, Nat.min_eq_left (by omega)]
  intro k h0 hk
  have e : ∀ m, m < n → at0 (H2.take n) m = at0 H2 m := fun m hm => by rw [at0, at0, List.getD_eq_getElem?_getD, List.getD_eq_getElem?_getD, List.getElem?_take, if_pos hm]
  rw [e k hk, e _ (by omega)]
  exact hh2 k h0 hk
theorem next31 (H : List LossT) (gl B n : Nat) (w : World) (h : HpAt w B gl H) (hh : HeapB H H.length) (hn : H.length = n + 1) (hmx : n < 1000) :
    Calls Try.prog 31 [.pointer (some ⟨gl, 0, none⟩)].toArray w (Ret fun v w' => v = .int .i64 ((at0 H 0).2 : Int) ∧ ∃ H', HpAt w' B gl H' ∧ (at0 H 0 :: H').Perm H ∧ HeapB H' H'.length ∧ Below B w w') := by
  refine calls_W (fn := Try.f31) (rs := [.tmp 2]) (n := 8) Try.func31 rfl rfl Try.ntmps31 (by kernel_rfl) rfl ?_
  refine W_seq ?_
  refine W_region ?_
  refine WR_val rfl (rn_assign) ?_
  refine WR_nil ?_
  refine thenN ?_
  refine W_seq ?_
  refine W_region ?_
  refine WR_val rfl (rn_move) ?_
  refine WR_val rfl (rn_iface (by kernel_rfl)) ?_
  refine WR_ent rfl (rn_call (by kernel_rfl) rfl) (heapPop H gl B n w h hh hn hmx) ?_
  rintro _ w5 ⟨rfl, H', h1, hp1, hh1, hb5⟩
  refine WR_val rfl (rn_assert (by kernel_rfl) rfl) ?_
  refine WR_val rfl (rn_field (off := 1) (by kernel_rfl) rfl rfl) ?_
  refine WR_val rfl (rn_assign) ?_
  refine WR_nil ?_
  refine thenN ?_
  refine W_ret ?_
  refine ret_ret [_] ⟨rfl, trivial⟩ ?_
  exact ⟨rfl, H', h1, hp1, hh1, hb5⟩
end Go.Proofs.Ytknjiohhlemeiaa
