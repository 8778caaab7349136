/- Dealing out: the reference's own way. -/
import Derived.Test.YtknjiohhlemeiaaFareL
namespace Go.Proofs.Ytknjiohhlemeiaa
open Go Go.RowKit Coup

theorem apart_kept {w w' : World} {base e sz m : Nat} {v v' : Value} {xs : List Value} (h : ownsAt w base e sz v m xs) (hg : w.grownBy w' v'.ownBlock) (ha : ∀ g, v'.ownBlock = some g → v.ownBlock ≠ some g) : ownsAt w' base e sz v m xs :=
  h.kpd (Kp.of_grown hg) fun g hm => ha g (Option.mem_toList.1 hm)
theorem part17' (a x s q : Int) (L : Int) (w : World) (ha : 0 ≤ a ∧ a ≤ 1000000000000) (hw : 0 ≤ x ∧ x ≤ s) (hs : 0 < s ∧ s ≤ 1000000000000000000) :
    Calls Try.prog 17 [.int .i64 a, .int .i64 x, .int .i64 s].toArray w (Ret fun v w' => v = .tuple #[.int .i64 (a * x / s), .int .i64 (a * x % s)] ∧ Below w.heap.size w w') := part17 a x s w ha hw hs
theorem iv_splice {l : List Int} {i : Nat} {x : Int} (h : i < l.length) : splice (iv l) i [.int .i64 x] = iv (l.set i x) := by rw [splice_one (by rw [iv_length]; exact h), iv_set]
set_option maxHeartbeats 2000000 in
theorem deal15 (a : Int) (p : Option Addr) (n c : Nat) (ws : List Int) (w : World) (h : SlAt w p n 1 (iv ws)) (hn : n ≤ 100) (hw : okW ws = true) (hs0 : 0 < sumI ws) (ha : 0 ≤ a ∧ a ≤ 1000000000000) :
    Calls Try.prog 15 [.int .i64 a, .slice p n c].toArray w
      (Ret fun v w' => Below w.heap.size w w' ∧ ∃ g o c', v = .slice (some ⟨g, o, none⟩) n c' ∧ SlAt w' (some ⟨g, o, none⟩) n 1 (iv (dealS a ws))) := by
  have hB := Below.refl w.heap.size w
  have hl : ws.length = n := by simpa [iv_length] using h.len
  have hml : maxLen = 9223372036854775807 := by decide
  have hwa := okW_iff.1 hw
  have hs1 := okW_sum hw
  obtain ⟨s, hs⟩ : ∃ s, s = sumI ws := ⟨_, rfl⟩
  have hwl : ∀ x ∈ ws, 0 ≤ x ∧ x ≤ s := fun x hx => ⟨(hwa x hx).1, by rw [hs]; exact mem_le_sumI (fun y hy => (hwa y hy).1) x hx⟩
  refine calls_W (fn := Try.f15) (rs := [.tmp 4]) (n := 74) Try.func15 rfl rfl Try.ntmps15 (by kernel_rfl) rfl ?_
  refine W_seq ?_
  refine W_region ?_
  refine WR_val rfl (rn_assign) ?_
  refine WR_nil ?_
  refine thenN ?_
  refine W_seq ?_
  refine W_region ?_
  refine WR_val rfl (rn_move) ?_
  refine WR_ent rfl (rn_call (by kernel_rfl) rfl) (together16 p n c ws w h hw (by omega)) ?_
  rintro _ _ ⟨rfl, rfl⟩
  refine WR_val rfl (rn_assign) ?_
  refine WR_nil ?_
  refine thenN ?_
  refine W_seq ?_
  refine W_region ?_
  refine WR_val rfl (rn_assign) ?_
  refine WR_val rfl (rn_assign) ?_
  refine WR_nil ?_
  refine thenN ?_
  refine W_seq ?_
  refine W_region ?_
  refine WR_val rfl (rn_move) ?_
  refine WR_val rfl (rn_assign) ?_
  refine WR_nil ?_
  refine thenN ?_
  refine W_seq ?_
  refine W_seq ?_
  refine W_region ?_
  refine WR_val rfl (rn_assign) ?_
  refine WR_nil ?_
  refine thenN ?_
  refine W_block ?_
  refine W_loop (α := Nat × Value × Value) (0, .slice none 0 0, .slice none 0 0) (fun k => [(9, .int .i64 (k.1 : Nat)), (8, .int .i64 (a - sumI (sharesOf a s (ws.take k.1)))), (7, k.2.2), (6, k.2.1), (5, .int .i64 s), (1, .slice p n c), (0, .int .i64 a)])
    (fun k w' => k.1 ≤ n ∧ ownsAt w' w.heap.size 2 1 k.2.1 k.1 (iv (sharesOf a s (ws.take k.1))) ∧ ownsAt w' w.heap.size 2 1 k.2.2 k.1 (iv (lostOf a s (ws.take k.1))) ∧ (∀ g, k.2.1.ownBlock = some g → k.2.2.ownBlock ≠ some g) ∧ Below w.heap.size w w') (fun k => n - k.1)
    ⟨rfl, vi (by simp [sharesOf, sumI]), rfl, rfl, vi hs.symm, rfl, rfl, rfl⟩ ⟨Nat.zero_le _, ownsAt_nil _ _ _ _, ownsAt_nil _ _ _ _, (fun g h => by simp [Value.ownBlock] at h), hB⟩ ?_
  rintro ⟨i, v6, v7⟩ f wr ⟨hi, h6, h7, hap, hB⟩
  simp only at hi h6 h7 hap
  dsimp only
  have hshb := share_bounds (s := s) (ws := ws.take i) ha.1 (by omega) fun x hx => hwl x (List.mem_of_mem_take hx)
  have hq1 := sumI_le _ _ fun x hx => (hshb x hx).2
  have hq2 := sumI_ge _ 0 fun x hx => (hshb x hx).1
  rw [sharesOf_len, List.length_take, Nat.min_eq_left (by omega)] at hq1 hq2
  have hq3 : (i : Int) * a ≤ 100 * 1000000000000 := Int.le_trans (Int.mul_le_mul_of_nonneg_left ha.2 (by omega)) (Int.mul_le_mul_of_nonneg_right (by omega) (by decide))
  have hBi := Below.refl wr.heap.size wr
  refine W_seq ?_
  refine W_seq ?_
  refine W_region ?_
  refine WR_val rfl (rn_move) ?_
  refine WR_val rfl (rn_move) ?_
  refine WR_val rfl (rn_lenSl (e := 2) (sz := 1) (by kernel_rfl) rfl rfl) ?_
  refine WR_val rfl (rn_lss rfl rfl) ?_
  refine WR_nil ?_
  refine thenN ?_
  refine W_ifp rfl (fun hlt => ?_) (fun hlt => ?_)
  ·
    refine W_skip ?_
    refine thenN ?_
    refine W_seq ?_
    refine W_block ?_
    refine W_seq ?_
    have hobt := slAt_getI h (i := i) (by omega)
    obtain ⟨x, hx⟩ := hobt
    have hobt := h.some (by omega)
    obtain ⟨gp, op, rfl, hgp⟩ := hobt
    have hxb := hwl x (List.mem_of_getElem? hx)
    have hqx := share_bounds (ws := [x]) ha.1 (show 0 < s by omega) (by intro y hy; simp at hy; subst hy; exact hxb) (a * x / s) (by simp [sharesOf])
    refine W_region ?_
    refine WR_val rfl (rn_move) ?_
    refine WR_val rfl (rn_move) ?_
    refine WR_val rfl (rn_move) ?_
    refine WR_val rfl (rn_indexSl1 (e := 2) (by kernel_rfl) rfl rfl (i) (by omega) (by omega)) ?_
    refine WR_val rfl (rn_load rfl (Ld.sl1 (h.below hB (Nat.le_refl _)) (by kernel_rfl) (iv_some hx))) ?_
    refine WR_val rfl (rn_move) ?_
    refine WR_ent rfl (rn_call (by kernel_rfl) rfl) (part17 a x s wr ha hxb (by omega)) ?_
    rintro _ w30 ⟨rfl, hb30⟩
    replace hB := hB.acc hb30
    replace hBi := hBi.acc hb30
    refine WR_val rfl (rn_move) ?_
    refine WR_val rfl (rn_extract rfl rfl) ?_
    refine WR_val rfl (rn_extract rfl rfl) ?_
    refine WR_val rfl (rn_assign) ?_
    refine WR_val rfl (rn_assign) ?_
    refine WR_nil ?_
    refine thenN ?_
    refine W_seq ?_
    refine W_region ?_
    refine WR_val rfl (rn_move) ?_
    refine WR_val rfl (rn_move) ?_
    refine WR_mk rfl (mk_one (e := 2) (Value.int .i64 (a * x / s)) ([Value.int .i64 (a * x / s)]) ([Value.int .i64 0]) 1 (by kernel_rfl) (by kernel_rfl) rfl rfl rfl ⟨by decide, by decide⟩ (fun g35 w35 hg35 hr35 hb35 => ?_))
    have ge_hB_g35 := Nat.le_trans hB.size hg35
    have ge_hBi_g35 := Nat.le_trans hBi.size hg35
    replace hB := hB.acc hb35
    replace hBi := hBi.acc hb35
    have hs35 := hr35.slA (m := 1) (sz := 1) rfl (by unfold maxLen; omega)
    have h6 := h6.new hBi
    have h7 := h7.new hBi
    have hz6 := hBi.size
    have hz0 := hB.size
    have hlt7 := h7.lt
    have sz_hB_36 := hB.size
    refine WR_mk rfl (mk_append (e := 2) (sz := 1) (bytes := 8) (z := Value.int .i64 0) (by kernel_rfl) rfl (by kernel_rfl) rfl (by decide) rfl h6 rfl hs35 (by simp [Value.oneCell']) (by unfold maxLen; omega) (by omega) (fun hm0 => by omega) (fun v36 w36 hv36 hgr36 hfr36 => ?_))
    replace hB := hB.own h6 hgr36 (by omega)
    have h7 := apart_kept h7 hgr36 hap
    have hap36 : ∀ g, v36.ownBlock = some g → v7.ownBlock ≠ some g := fun g hg e => (hfr36 g hg).elim (fun e' => hap g e' e) (fun e' => by have := (hlt7 g e).2; omega)
    have hBj := Below.refl w36.heap.size w36
    have hlt36 := hv36.lt
    refine WR_val rfl (rn_assign) ?_
    refine WR_nil ?_
    refine thenN ?_
    refine W_seq ?_
    refine W_region ?_
    refine WR_val rfl (rn_move) ?_
    refine WR_val rfl (rn_move) ?_
    refine WR_mk rfl (mk_one (e := 2) (Value.int .i64 (a * x % s)) ([Value.int .i64 (a * x % s)]) ([Value.int .i64 0]) 1 (by kernel_rfl) (by kernel_rfl) rfl rfl rfl ⟨by decide, by decide⟩ (fun g39 w39 hg39 hr39 hb39 => ?_))
    have ge_hB_g39 := Nat.le_trans hB.size hg39
    have ge_hBj_g39 := Nat.le_trans hBj.size hg39
    replace hB := hB.acc hb39
    replace hBj := hBj.acc hb39
    have hs39 := hr39.slA (m := 1) (sz := 1) rfl (by unfold maxLen; omega)
    have h7 := h7.new hBj
    have hv36 := hv36.new hBj
    have hz7 := hBj.size
    have hz1 := hB.size
    have hlt36 := hv36.lt
    have sz_hB_40 := hB.size
    refine WR_mk rfl (mk_append (e := 2) (sz := 1) (bytes := 8) (z := Value.int .i64 0) (by kernel_rfl) rfl (by kernel_rfl) rfl (by decide) rfl h7 rfl hs39 (by simp [Value.oneCell']) (by unfold maxLen; omega) (by omega) (fun hm0 => by omega) (fun v40 w40 hv40 hgr40 hfr40 => ?_))
    replace hB := hB.own h7 hgr40 (by omega)
    refine WR_val rfl (rn_assign) ?_
    refine WR_nil ?_
    refine thenN ?_
    refine W_region ?_
    refine WR_val rfl (rn_move) ?_
    refine WR_val rfl (rn_move) ?_
    refine WR_val rfl (rn_sub rfl rfl (Coup.w64 (by omega))) ?_
    refine WR_val rfl (rn_assign) ?_
    refine WR_nil ?_
    refine blockN ?_
    refine thenN ?_
    refine W_region ?_
    refine WR_val rfl (rn_move) ?_
    refine WR_val rfl (rn_add rfl rfl (Coup.w64 (by omega))) ?_
    refine WR_val rfl (rn_assign) ?_
    refine WR_nil ?_
    have hv36' := apart_kept hv36 hgr40 fun g hg e => hap36 g e hg
    refine loopN ⟨(i + 1, v36, v40), by simp only; omega, ⟨rfl, vi ?_, rfl, rfl, rfl, rfl, rfl, rfl⟩, by simp only; omega, ?_, ?_, fun g hg e => (hfr40 g e).elim (fun e' => hap36 g hg e') (fun e' => by have := (hlt36 g hg).2; omega), hB⟩
    · rw [take_snoc hx, sharesOf_snoc, sumI_snoc]; omega
    · simp only
      rw [take_snoc hx, sharesOf_snoc, iv_append]
      exact hv36'
    · simp only
      rw [take_snoc hx, lostOf_snoc, iv_append]
      exact hv40
  ·
    obtain rfl : i = n := by omega
    rw [List.take_of_length_le (by omega)] at *
    have hi0 : 0 < i := by
      rcases Nat.eq_zero_or_pos i with h0 | h0
      · have : ws = [] := List.eq_nil_of_length_eq_zero (by omega)
        rw [this] at hs0; simp [sumI] at hs0
      · exact h0
    obtain ⟨g6, o6, c6, rfl, hg6, hgl6, hc6⟩ := h6.form' hi0
    obtain ⟨g7, o7, c7, rfl, hg7, hgl7, hc7⟩ := h7.form' hi0
    have hne : g6 ≠ g7 := fun e => hap g6 rfl (by rw [e]; rfl)
    have h6 : OwnG wr w.heap.size 2 1 g6 o6 i c6 (iv (sharesOf a s ws)) := h6
    have h7 : OwnG wr w.heap.size 2 1 g7 o7 i c7 (iv (lostOf a s ws)) := h7
    have hsL := left_bounds (a := a) (ws := ws) (by omega)
    obtain ⟨m0, hm0⟩ : ∃ m : Nat, leftOf a ws = (m : Int) := ⟨(leftOf a ws).toNat, by omega⟩
    have hD0 : bumps m0 (sharesOf a s ws) (lostOf a s ws) = dealS a ws := by rw [dealS, hm0, Int.toNat_natCast, hs]
    have hact := act_all (l := lostOf a s ws) fun x hx => (lost_bounds (by omega) ws x hx).1
    rw [lostOf_len] at hact
    have hleft : a - sumI (sharesOf a s ws) = (m0 : Int) := by rw [← hm0, leftOf, hs]
    refine W_exit ?_
    refine thenX ?_
    refine loopX ?_
    refine blockX ?_
    refine thenN ?_
    refine W_seq ?_
    refine W_block ?_
    refine W_loop (α := Nat × List Int × List Int) (m0, sharesOf a s ws, lostOf a s ws) (fun k => [(8, .int .i64 (k.1 : Nat)), (7, .slice (some ⟨g7, o7, none⟩) i c7), (6, .slice (some ⟨g6, o6, none⟩) i c6)])
      (fun k w' => OwnG w' w.heap.size 2 1 g6 o6 i c6 (iv k.2.1) ∧ OwnG w' w.heap.size 2 1 g7 o7 i c7 (iv k.2.2) ∧ k.2.1.length = i ∧ k.2.2.length = i ∧ (∀ j, j < i → -1 ≤ gi k.2.2 j) ∧ k.1 ≤ act k.2.2 ∧ bumps k.1 k.2.1 k.2.2 = dealS a ws ∧ (∀ j, j < i → 0 ≤ gi k.2.1 j ∧ gi k.2.1 j ≤ 1000000000100 - k.1) ∧ Below w.heap.size w w') (fun k => k.1)
      ⟨vi hleft, rfl, rfl, rfl⟩ ⟨h6, h7, by simp only [sharesOf_len]; omega, by simp only [lostOf_len]; omega, fun j hj => ?_, by simp only; omega, hD0, fun j hj => ?_, hB⟩ ?_
    · have := lost_bounds (a := a) (s := s) (by omega) ws _ (gi_mem (l := lostOf a s ws) (i := j) (by rw [lostOf_len]; omega))
      simp only; omega
    · have := hshb _ (gi_mem (l := sharesOf a s ws) (i := j) (by rw [sharesOf_len]; omega))
      simp only; omega
    clear h6 h7 hact hD0 hleft hm0 hsL hq1 hq2 hq3 hshb hB hBi hap
    rintro ⟨m, sh, lo⟩ f2 wz ⟨h6, h7, hshl, hlol, hge, hact, hD, hshb, hB⟩
    simp only at h6 h7 hshl hlol hge hact hD hshb
    dsimp only
    refine W_seq ?_
    refine W_seq ?_
    refine W_region ?_
    refine WR_val rfl (rn_move) ?_
    refine WR_val rfl (rn_gtr rfl rfl) ?_
    refine WR_nil ?_
    refine thenN ?_
    refine W_ifp rfl (fun hlt => ?_) (fun hlt => ?_)
    ·
      refine W_skip ?_
      refine thenN ?_
      refine W_seq ?_
      refine W_block ?_
      refine W_seq ?_
      refine W_region ?_
      refine WR_val rfl (rn_assign) ?_
      refine WR_nil ?_
      refine thenN ?_
      refine W_seq ?_
      refine W_seq ?_
      refine W_region ?_
      refine WR_val rfl (rn_assign) ?_
      refine WR_nil ?_
      refine thenN ?_
      refine W_block ?_
      have ham1 : amaxTo lo 1 = 0 := by simp [amaxTo]
      refine W_loop (α := Nat) 1 (fun k => [(13, .int .i64 (k : Nat)), (12, .int .i64 (amaxTo lo k : Nat)), (8, .int .i64 (m : Nat)), (7, .slice (some ⟨g7, o7, none⟩) i c7), (6, .slice (some ⟨g6, o6, none⟩) i c6)])
        (fun k w' => 1 ≤ k ∧ k ≤ i ∧ OwnG w' w.heap.size 2 1 g6 o6 i c6 (iv sh) ∧ OwnG w' w.heap.size 2 1 g7 o7 i c7 (iv lo) ∧ Below w.heap.size w w') (fun k => i - k)
        ⟨rfl, vi (by rw [ham1]; rfl), rfl, rfl, rfl, rfl⟩ ⟨Nat.le_refl _, by omega, h6, h7, hB⟩ ?_
      rintro k f3 wy ⟨hk1, hki, h6, h7, hB⟩
      obtain ⟨hmx, -⟩ := amaxTo_max lo k (by omega)
      refine W_seq ?_
      refine W_seq ?_
      refine W_region ?_
      refine WR_val rfl (rn_move) ?_
      refine WR_val rfl (rn_move) ?_
      refine WR_val rfl (rn_lenSl (e := 2) (sz := 1) (by kernel_rfl) rfl rfl) ?_
      refine WR_val rfl (rn_lss rfl rfl) ?_
      refine WR_nil ?_
      refine thenN ?_
      refine W_ifp rfl (fun hlt2 => ?_) (fun hlt2 => ?_)
      ·
        refine W_skip ?_
        refine thenN ?_
        refine W_seq ?_
        refine W_block ?_
        refine W_seq ?_
        refine W_draw' [] (by kernel_rfl) ?_
        intro w901 hb901 hS901
        replace h6 := h6.new hb901
        replace h7 := h7.new hb901
        replace hB := hB.acc hb901
        have h6_d901 := h6
        have h7_d901 := h7
        have hB_d901 := hB
        refine WA_take 0 (by kernel_rfl) rfl (fun _ _ => rn_move) ?_
        refine WA_take 1 (by kernel_rfl) rfl (fun _ _ => rn_move) ?_
        refine WA_take 2 (by kernel_rfl) rfl (fun _ _ => rn_indexSl1 (e := 2) (by kernel_rfl) rfl rfl (k) (by omega) (by omega)) ?_
        refine WA_take 3 (by kernel_rfl) rfl (fun w' hS' => rn_load rfl (Ld.sl1 (off := o7) (j := k) (h7_d901.kpd hS' (by first | (simp; done) | (simp; omega))).sl (by kernel_rfl) (iv_some (gi_get (by omega))))) ?_
        refine WA_take 4 (by kernel_rfl) rfl (fun _ _ => rn_move) ?_
        refine WA_take 5 (by kernel_rfl) rfl (fun _ _ => rn_move) ?_
        refine WA_take 6 (by kernel_rfl) rfl (fun _ _ => rn_indexSl1 (e := 2) (by kernel_rfl) rfl rfl (amaxTo lo k) (by omega) (by omega)) ?_
        refine WA_take 7 (by kernel_rfl) rfl (fun w' hS' => rn_load rfl (Ld.sl1 (off := o7) (j := amaxTo lo k) (h7_d901.kpd hS' (by first | (simp; done) | (simp; omega))).sl (by kernel_rfl) (iv_some (gi_get (by omega))))) ?_
        refine WA_take 8 (by kernel_rfl) rfl (fun _ _ => rn_gtr rfl rfl) ?_
        refine WA_done (by kernel_rfl) ?_
        refine thenN ?_
        refine W_ifp rfl (fun hb => ?_) (fun hb => ?_)
        ·
          refine W_region ?_
          refine WR_val rfl (rn_move) ?_
          refine WR_val rfl (rn_assign) ?_
          refine WR_nil ?_
          refine blockN ?_
          refine thenN ?_
          refine W_region ?_
          refine WR_val rfl (rn_move) ?_
          refine WR_val rfl (rn_add rfl rfl (Coup.w64 (by omega))) ?_
          refine WR_val rfl (rn_assign) ?_
          refine WR_nil ?_
          refine loopN ⟨k + 1, by omega, ⟨rfl, vi (by rw [amaxTo, if_pos hb]), rfl, rfl, rfl, rfl⟩, by omega, by omega, h6, h7, hB⟩
        ·
          refine W_skip ?_
          refine blockN ?_
          refine thenN ?_
          refine W_region ?_
          refine WR_val rfl (rn_move) ?_
          refine WR_val rfl (rn_add rfl rfl (Coup.w64 (by omega))) ?_
          refine WR_val rfl (rn_assign) ?_
          refine WR_nil ?_
          refine loopN ⟨k + 1, by omega, ⟨rfl, vi (by rw [amaxTo, if_neg hb]), rfl, rfl, rfl, rfl⟩, by omega, by omega, h6, h7, hB⟩
      ·
        have hki2 : k = lo.length := by omega
        have hA : amaxTo lo k = amax lo := by rw [hki2]; rfl
        rw [hA] at hmx
        have hpos : 0 ≤ gi lo (amax lo) := by
          obtain ⟨k0, hk0, hp0⟩ := countP_pos _ _ (show 0 < act lo by omega)
          have hp0 := of_decide_eq_true hp0
          by_cases e : k0 = amax lo
          · rw [← e]; exact hp0
          · have := (amaxTo_max lo lo.length (by omega)).2 k0 hk0 e
            have e2 : amaxTo lo lo.length = amax lo := rfl
            unfold bef at this; rw [e2] at this; omega
        have hsj := hshb (amax lo) (by omega)
        refine W_exit ?_
        refine thenX ?_
        refine loopX ?_
        refine blockX ?_
        refine thenN ?_
        refine W_seq ?_
        refine W_region ?_
        refine WR_val rfl (rn_move) ?_
        refine WR_val rfl (rn_move) ?_
        refine WR_val rfl (rn_indexSl1 (e := 2) (by kernel_rfl) rfl rfl (amax lo) (by omega) (by omega)) ?_
        refine WR_val rfl (rn_load rfl (Ld.sl1 (off := o6) (j := amax lo) h6.sl (by kernel_rfl) (iv_some (gi_get (by omega))))) ?_
        refine WR_val rfl (rn_add rfl rfl (Coup.w64 (by omega))) ?_
        refine WR_val rfl (rn_indexSl1 (e := 2) (by kernel_rfl) rfl rfl (amax lo) (by omega) (by omega)) ?_
        refine WR_sk rfl (sk_storeO ([.int .i64 (gi sh (amax lo) + 1)]) (amax lo) h6 rfl rfl (by kernel_rfl) (by first | (simp only [iv_length, List.length_cons, List.length_nil]; omega) | omega | (simp; omega)) (by simp [Value.oneCell']) (fun w902 h6 ho902 => ?_))
        replace h7 := h7.only ho902 (by omega)
        replace hB := ho902.below hB (by omega)
        rw [iv_splice (by omega)] at h6
        refine WR_nil ?_
        refine thenN ?_
        refine W_region ?_
        refine WR_val rfl (rn_move) ?_
        refine WR_val rfl (rn_move) ?_
        refine WR_val rfl (rn_indexSl1 (e := 2) (by kernel_rfl) rfl rfl (amax lo) (by omega) (by omega)) ?_
        refine WR_sk rfl (sk_storeO ([.int .i64 (-1)]) (amax lo) h7 rfl rfl (by kernel_rfl) (by first | (simp only [iv_length, List.length_cons, List.length_nil]; omega) | omega | (simp; omega)) (by simp [Value.oneCell']) (fun w903 h7 ho903 => ?_))
        replace h6 := h6.only ho903 (by omega)
        replace hB := ho903.below hB (by omega)
        rw [iv_splice (by omega)] at h7
        refine WR_nil ?_
        refine blockN ?_
        refine thenN ?_
        refine W_region ?_
        refine WR_val rfl (rn_move) ?_
        refine WR_val rfl (rn_sub rfl rfl (Coup.w64 (by omega))) ?_
        refine WR_val rfl (rn_assign) ?_
        refine WR_nil ?_
        have hj1 : amax lo < lo.length := by omega
        obtain ⟨m', rfl⟩ : ∃ m', m = m' + 1 := ⟨m - 1, by omega⟩
        have ha2 := act_set hj1 hpos
        refine loopN ⟨(m', sh.set (amax lo) (gi sh (amax lo) + 1), lo.set (amax lo) (-1)), by simp only; omega, ⟨vi (by omega), rfl, rfl, rfl⟩, h6, h7, by simp only [List.length_set]; exact hshl, by simp only [List.length_set]; exact hlol, fun j hj => ?_, by simp only; omega, hD, fun j hj => ?_, hB⟩
        · simp only
          rw [gi_set hj1]
          have := hge j hj
          split <;> omega
        · simp only
          rw [gi_set (by omega)]
          have := hshb j hj
          split <;> omega
    ·
      obtain rfl : m = 0 := by omega
      refine W_exit ?_
      refine thenX ?_
      refine loopX ?_
      refine blockX ?_
      refine thenN ?_
      refine W_seq ?_
      refine W_region ?_
      refine WR_val rfl (rn_move) ?_
      refine WR_val rfl (rn_assign) ?_
      refine WR_nil ?_
      refine thenN ?_
      refine W_ret ?_
      refine ret_ret [_] ⟨rfl, trivial⟩ ?_
      refine ⟨hB, g6, o6, c6, rfl, ?_⟩
      rw [← hD]
      exact h6.sl
end Go.Proofs.Ytknjiohhlemeiaa
