/- The law FareAlike. -/
import Derived.Test.YtknjiohhlemeiaaFareX
namespace Go.Proofs.Ytknjiohhlemeiaa
open Go Go.RowKit Coup

theorem apart_next {w : World} {base e sz m : Nat} {v v' u : Value} {xs : List Value} (hu : ownsAt w base e sz u m xs) (hfr : ∀ g, v'.ownBlock = some g → v.ownBlock = some g ∨ w.heap.size ≤ g) (ha : ∀ g, v.ownBlock = some g → u.ownBlock ≠ some g) : ∀ g, v'.ownBlock = some g → u.ownBlock ≠ some g :=
  fun g hg e => (hfr g hg).elim (fun e' => ha g e' e) (fun e' => by have := (hu.lt g e).2; omega)
theorem apart_symm {v u : Value} (ha : ∀ g, v.ownBlock = some g → u.ownBlock ≠ some g) : ∀ g, u.ownBlock = some g → v.ownBlock ≠ some g := fun g hg e => ha g e hg
def fromL (c : Nat → Nat) (l : List Int) (i : Nat) : List Int := (List.range i).map fun k => (fromT c l k : Int)
theorem fromL_len (c : Nat → Nat) (l : List Int) (i : Nat) : (fromL c l i).length = i := by simp [fromL]
theorem fromL_succ (c : Nat → Nat) (l : List Int) (i : Nat) : fromL c l (i + 1) = fromL c l i ++ [(fromT c l i : Int)] := by simp [fromL, List.range_succ]
theorem fromL_gi (c : Nat → Nat) (l : List Int) (i k : Nat) (h : k < i) : gi (fromL c l i) k = (fromT c l k : Int) := by
  unfold gi fromL
  rw [List.getD_eq_getElem?_getD, List.getElem?_map, List.getElem?_range h]
  rfl
theorem saysT_snoc {ps : List Int} {k : Nat} (h : k < ps.length) (i : Nat) : saysT (ps.take (k + 1)) i = saysT (ps.take k) i + if gi ps k = (i : Int) then 1 else 0 := by
  rw [take_snoc (gi_get h)]
  unfold saysT
  rw [List.countP_append, List.countP_singleton]
  by_cases e : gi ps k = (i : Int)
  · rw [decide_eq_true e, if_pos rfl, if_pos e]
  · rw [decide_eq_false e, if_neg e]; rfl
theorem iv_cat (l m : List Int) : iv (l ++ m) = iv l ++ iv m := by simp [iv]
theorem dealE_zero {a : Int} {l : List Int} (h : l.length ≤ 64) (hw : okW l = true) (hs : sumI l ≠ 0) (ha : 0 ≤ a ∧ a ≤ 1000000000000) : dealE a l = 0 := by
  unfold dealE
  rw [if_neg (by omega), if_pos ⟨hw, hs⟩, if_pos (someM_iff.2 ha)]
theorem okI_okW {l : List Int} (h : okW l = true) : okI l := fun x hx => by have := okW_iff.1 h x hx; omega
set_option maxHeartbeats 1000000 in
theorem alikeC (a : Int) (p : Option Addr) (n cp : Nat) (l : List Int) (t : Int) (p3 : Option Addr) (n3 cp3 : Nat) (ps : List Int) (w : World) (h : SlAt w p n 1 (iv l)) (hok : okI l) (hai : -9223372036854775808 ≤ a ∧ a ≤ 9223372036854775807) (h3 : SlAt w p3 n3 1 (iv ps)) (hok3 : okI ps) :
    Calls Try.prog 5 [.int .i64 a, .slice p n cp, .int .i64 t, .slice p3 n3 cp3].toArray w (Ret fun v w' => v = .bool true ∧ Below w.heap.size w w') := by
  have hB := Below.refl w.heap.size w
  have hl : l.length = n := by simpa [iv_length] using h.len
  have hl3 : ps.length = n3 := by simpa [iv_length] using h3.len
  have hmax := h.max
  have hmax3 := h3.max
  have hml : maxLen = 9223372036854775807 := by decide
  have hmy : mayW l = true → okW l = true ∧ sumI l ≠ 0 := mayW_iff.1
  refine calls_W (fn := Try.f5) (rs := [.tmp 8]) (n := 171) Try.func5 rfl rfl Try.ntmps5 (by kernel_rfl) rfl ?_
  refine W_seq ?_
  refine W_region ?_
  refine WR_val rfl (rn_assign) ?_
  refine WR_nil ?_
  refine thenN ?_
  refine W_seq ?_
  refine W_cut (fun _ : Unit => [(50, .bool (decide (¬ (n ≤ 30 ∧ n3 ≤ 30 ∧ mayW l = true ∧ 0 ≤ a ∧ a ≤ 1000000000000 ∧ 1 ≤ t ∧ t ≤ 1000)))), (0, .int .i64 a), (1, .slice p n cp), (2, .int .i64 t), (3, .slice p3 n3 cp3)]) (fun _ w' => w = w') ?_ ?_
  ·
    refine W_region ?_
    refine WR_val rfl (rn_move) ?_
    refine WR_val rfl (rn_lenSl (e := 2) (sz := 1) (by kernel_rfl) rfl rfl) ?_
    refine WR_val rfl (rn_gtr rfl rfl) ?_
    refine WR_val rfl (rn_move) ?_
    refine WR_part 25 rfl (fun h1 => ?_) (fun h1 => ?_)
    ·
      refine WR_no rfl rfl ?_
      refine WR_no rfl rfl ?_
      refine WR_no rfl rfl ?_
      refine WR_val rfl (rn_pick_t rfl) ?_
      refine WR_val rfl (rn_move) ?_
      refine WR_no rfl rfl ?_
      refine WR_no rfl rfl ?_
      refine WR_no rfl rfl ?_
      refine WR_val rfl (rn_pick_t rfl) ?_
      refine WR_val rfl (rn_move) ?_
      refine WR_no rfl rfl ?_
      refine WR_no rfl rfl ?_
      refine WR_val rfl (rn_pick_t rfl) ?_
      refine WR_val rfl (rn_move) ?_
      refine WR_no rfl rfl ?_
      refine WR_no rfl rfl ?_
      refine WR_val rfl (rn_pick_t rfl) ?_
      refine WR_val rfl (rn_move) ?_
      refine WR_no rfl rfl ?_
      refine WR_no rfl rfl ?_
      refine WR_val rfl (rn_pick_t rfl) ?_
      refine WR_val rfl (rn_move) ?_
      refine WR_no rfl rfl ?_
      refine WR_no rfl rfl ?_
      refine WR_val rfl (rn_pick_t rfl) ?_
      refine WR_nil ?_
      refine loopN ⟨(), ⟨vb (by rw [decide_eq_true]; omega), rfl, rfl, rfl, rfl, rfl⟩, rfl⟩
    ·
      refine WR_yes rfl ?_
      refine WR_val rfl (rn_move) ?_
      refine WR_yes rfl ?_
      refine WR_val rfl (rn_lenSl (e := 3) (sz := 1) (by kernel_rfl) rfl rfl) ?_
      refine WR_yes rfl ?_
      refine WR_val rfl (rn_gtr rfl rfl) ?_
      refine WR_val rfl (rn_pick_f rfl) ?_
      refine WR_val rfl (rn_move) ?_
      refine WR_part 30 rfl (fun h2 => ?_) (fun h2 => ?_)
      ·
        refine WR_no rfl rfl ?_
        refine WR_no rfl rfl ?_
        refine WR_no rfl rfl ?_
        refine WR_val rfl (rn_pick_t rfl) ?_
        refine WR_val rfl (rn_move) ?_
        refine WR_no rfl rfl ?_
        refine WR_no rfl rfl ?_
        refine WR_val rfl (rn_pick_t rfl) ?_
        refine WR_val rfl (rn_move) ?_
        refine WR_no rfl rfl ?_
        refine WR_no rfl rfl ?_
        refine WR_val rfl (rn_pick_t rfl) ?_
        refine WR_val rfl (rn_move) ?_
        refine WR_no rfl rfl ?_
        refine WR_no rfl rfl ?_
        refine WR_val rfl (rn_pick_t rfl) ?_
        refine WR_val rfl (rn_move) ?_
        refine WR_no rfl rfl ?_
        refine WR_no rfl rfl ?_
        refine WR_val rfl (rn_pick_t rfl) ?_
        refine WR_nil ?_
        refine loopN ⟨(), ⟨vb (by rw [decide_eq_true]; omega), rfl, rfl, rfl, rfl, rfl⟩, rfl⟩
      ·
        refine WR_yes rfl ?_
        refine WR_val rfl (rn_move) ?_
        refine WR_yes rfl ?_
        refine WR_ent rfl (rn_call (by kernel_rfl) rfl) (mayW12 p n cp l w h) ?_
        rintro _ _ ⟨rfl, rfl⟩
        refine WR_yes rfl ?_
        refine WR_val rfl (rn_not rfl) ?_
        refine WR_val rfl (rn_pick_f rfl) ?_
        refine WR_val rfl (rn_move) ?_
        refine WR_partnb 35 rfl (fun h3b => ?_) (fun h3b => ?_)
        ·
          refine WR_no rfl rfl ?_
          refine WR_no rfl rfl ?_
          refine WR_val rfl (rn_pick_t rfl) ?_
          refine WR_val rfl (rn_move) ?_
          refine WR_no rfl rfl ?_
          refine WR_no rfl rfl ?_
          refine WR_val rfl (rn_pick_t rfl) ?_
          refine WR_val rfl (rn_move) ?_
          refine WR_no rfl rfl ?_
          refine WR_no rfl rfl ?_
          refine WR_val rfl (rn_pick_t rfl) ?_
          refine WR_val rfl (rn_move) ?_
          refine WR_no rfl rfl ?_
          refine WR_no rfl rfl ?_
          refine WR_val rfl (rn_pick_t rfl) ?_
          refine WR_nil ?_
          refine loopN ⟨(), ⟨vb (by rw [decide_eq_true]; intro q; simp [q.2.2.1] at h3b), rfl, rfl, rfl, rfl, rfl⟩, rfl⟩
        ·
          refine WR_yes rfl ?_
          refine WR_val rfl (rn_move) ?_
          refine WR_yes rfl ?_
          refine WR_val rfl (rn_lss rfl rfl) ?_
          refine WR_val rfl (rn_pick_f rfl) ?_
          refine WR_val rfl (rn_move) ?_
          refine WR_part 39 rfl (fun h4 => ?_) (fun h4 => ?_)
          ·
            refine WR_no rfl rfl ?_
            refine WR_no rfl rfl ?_
            refine WR_val rfl (rn_pick_t rfl) ?_
            refine WR_val rfl (rn_move) ?_
            refine WR_no rfl rfl ?_
            refine WR_no rfl rfl ?_
            refine WR_val rfl (rn_pick_t rfl) ?_
            refine WR_val rfl (rn_move) ?_
            refine WR_no rfl rfl ?_
            refine WR_no rfl rfl ?_
            refine WR_val rfl (rn_pick_t rfl) ?_
            refine WR_nil ?_
            refine loopN ⟨(), ⟨vb (by rw [decide_eq_true]; omega), rfl, rfl, rfl, rfl, rfl⟩, rfl⟩
          ·
            refine WR_yes rfl ?_
            refine WR_val rfl (rn_move) ?_
            refine WR_yes rfl ?_
            refine WR_val rfl (rn_gtr rfl rfl) ?_
            refine WR_val rfl (rn_pick_f rfl) ?_
            refine WR_val rfl (rn_move) ?_
            refine WR_part 43 rfl (fun h5 => ?_) (fun h5 => ?_)
            ·
              refine WR_no rfl rfl ?_
              refine WR_no rfl rfl ?_
              refine WR_val rfl (rn_pick_t rfl) ?_
              refine WR_val rfl (rn_move) ?_
              refine WR_no rfl rfl ?_
              refine WR_no rfl rfl ?_
              refine WR_val rfl (rn_pick_t rfl) ?_
              refine WR_nil ?_
              refine loopN ⟨(), ⟨vb (by rw [decide_eq_true]; omega), rfl, rfl, rfl, rfl, rfl⟩, rfl⟩
            ·
              refine WR_yes rfl ?_
              refine WR_val rfl (rn_move) ?_
              refine WR_yes rfl ?_
              refine WR_val rfl (rn_lss rfl rfl) ?_
              refine WR_val rfl (rn_pick_f rfl) ?_
              refine WR_val rfl (rn_move) ?_
              refine WR_part 47 rfl (fun h6 => ?_) (fun h6 => ?_)
              ·
                refine WR_no rfl rfl ?_
                refine WR_no rfl rfl ?_
                refine WR_val rfl (rn_pick_t rfl) ?_
                refine WR_nil ?_
                refine loopN ⟨(), ⟨vb (by rw [decide_eq_true]; omega), rfl, rfl, rfl, rfl, rfl⟩, rfl⟩
              ·
                refine WR_yes rfl ?_
                refine WR_val rfl (rn_move) ?_
                refine WR_yes rfl ?_
                refine WR_val rfl (rn_gtr rfl rfl) ?_
                refine WR_val rfl (rn_pick_f rfl) ?_
                refine WR_nil ?_
                refine loopN ⟨(), ⟨vb (by rw [decide_eq_decide]; have h2' : mayW l = true := (by first | exact h3b | simpa using h3b); simp only [h2', true_and]; omega), rfl, rfl, rfl, rfl, rfl⟩, rfl⟩
  ·
    rintro - f _ rfl
    refine W_if rfl (fun hno => ?_) (fun hno => ?_)
    ·
      refine W_seq ?_
      refine W_region ?_
      refine WR_ent rfl (rn_call (by kernel_rfl) rfl) (known10 w) ?_
      rintro _ w51 ⟨rfl, hb51⟩
      replace hB := hB.acc hb51
      refine WR_val rfl (rn_assign) ?_
      refine WR_nil ?_
      refine thenN ?_
      refine W_ret ?_
      refine thenR ?_
      refine ret_ret [_] ⟨rfl, trivial⟩ ?_
      exact ⟨rfl, hB⟩
    ·
      have hno := of_decide_eq_false hno
      obtain ⟨hn, hn3, hmw, ha1, ha2, ht1, ht2⟩ := Decidable.not_not.1 hno
      have ha : 0 ≤ a ∧ a ≤ 1000000000000 := ⟨ha1, ha2⟩
      have hw := hmy hmw
      have hwa := okW_iff.1 hw.1
      have hs0 := sumI_ge l 0 fun y hy => (hwa y hy).1
      have hs : 0 < sumI l := by omega
      have hWs := withT_size ps l
      obtain ⟨c, hc⟩ : ∃ c, saysT ps = c := ⟨_, rfl⟩
      rw [hc] at hWs
      refine W_skip ?_
      refine thenN ?_
      refine W_seq ?_
      refine W_region ?_
      refine WR_val rfl (rn_assign) ?_
      refine WR_val rfl (rn_assign) ?_
      refine WR_nil ?_
      refine thenN ?_
      refine W_seq ?_
      refine W_region ?_
      refine WR_val rfl (rn_assign) ?_
      refine WR_nil ?_
      refine thenN ?_
      refine W_seq ?_
      refine W_seq ?_
      refine W_region ?_
      refine WR_val rfl (rn_assign) ?_
      refine WR_nil ?_
      refine thenN ?_
      refine W_block ?_
      refine W_loop (α := Nat × Value × Value × Value) (0, .slice none 0 0, .slice none 0 0, .slice none 0 0) (fun k => [(12, .int .i64 (k.1 : Nat)), (11, k.2.2.2), (10, k.2.2.1), (9, k.2.1), (0, .int .i64 a), (1, .slice p n cp), (2, .int .i64 t), (3, .slice p3 n3 cp3)])
        (fun k w' => k.1 ≤ n ∧ (∀ j, j < k.1 → gi l j ≤ 1000000000) ∧ ownsAt w' w.heap.size 2 1 k.2.1 k.1 (iv ((l.map (· * t)).take k.1)) ∧ ownsAt w' w.heap.size 2 1 k.2.2.1 (withT c l k.1).length (iv (withT c l k.1)) ∧ ownsAt w' w.heap.size 3 1 k.2.2.2 k.1 (iv (fromL c l k.1))
          ∧ (∀ g, k.2.1.ownBlock = some g → k.2.2.1.ownBlock ≠ some g) ∧ (∀ g, k.2.1.ownBlock = some g → k.2.2.2.ownBlock ≠ some g) ∧ (∀ g, k.2.2.1.ownBlock = some g → k.2.2.2.ownBlock ≠ some g) ∧ Below w.heap.size w w') (fun k => n - k.1)
        ⟨rfl, rfl, rfl, rfl, rfl, rfl, rfl, rfl, rfl⟩ ⟨Nat.zero_le _, (fun j hj => absurd hj (Nat.not_lt_zero j)), ownsAt_nil _ _ _ _, ownsAt_nil _ _ _ _, ownsAt_nil _ _ _ _, (fun g h => by simp [Value.ownBlock] at h), (fun g h => by simp [Value.ownBlock] at h), (fun g h => by simp [Value.ownBlock] at h), hB⟩ ?_
      clear hB
      rintro ⟨i, v9, v10, v11⟩ f wr ⟨hi, hsm, h9, h10, h11, ha9a, ha9b, ha10, hB⟩
      simp only at hi hsm h9 h10 h11 ha9a ha9b ha10
      dsimp only
      have hBi := Below.refl wr.heap.size wr
      refine W_seq ?_
      refine W_seq ?_
      refine W_region ?_
      refine WR_val rfl (rn_move) ?_
      refine WR_val rfl (rn_move) ?_
      refine WR_val rfl (rn_lenSl (e := 2) (sz := 1) (by kernel_rfl) rfl rfl) ?_
      refine WR_val rfl (rn_lss rfl rfl) ?_
      refine WR_nil ?_
      refine thenN ?_
      refine W_ifp rfl (fun hlt => ?_) (fun hlt => ?_)
      ·
        refine W_skip ?_
        refine thenN ?_
        refine W_seq ?_
        refine W_block ?_
        refine W_seq ?_
        refine W_seq ?_
        have hobt := h.some (by omega)
        obtain ⟨g1, o1, rfl, hg1⟩ := hobt
        refine W_region ?_
        refine WR_val rfl (rn_move) ?_
        refine WR_val rfl (rn_move) ?_
        refine WR_val rfl (rn_indexSl1 (e := 2) (by kernel_rfl) rfl rfl (i) (by omega) (by omega)) ?_
        refine WR_val rfl (rn_load rfl (Ld.sl1 (h.below hB (Nat.le_refl _)) (by kernel_rfl) (iv_gi (l := l) (i := i) (by omega)))) ?_
        refine WR_val rfl (rn_gtr rfl rfl) ?_
        refine WR_nil ?_
        refine thenN ?_
        refine W_ifp rfl (fun hbg => ?_) (fun hbg => ?_)
        ·
          refine W_seq ?_
          refine W_region ?_
          refine WR_ent rfl (rn_call (by kernel_rfl) rfl) (known10 wr) ?_
          rintro _ w63 ⟨rfl, hb63⟩
          replace hB := hB.acc hb63
          replace hBi := hBi.acc hb63
          refine WR_val rfl (rn_assign) ?_
          refine WR_nil ?_
          refine thenN ?_
          refine W_ret ?_
          refine thenR ?_
          refine blockR ?_
          refine thenR ?_
          refine loopR ?_
          refine blockR ?_
          refine thenR ?_
          refine ret_ret [_] ⟨rfl, trivial⟩ ?_
          exact ⟨rfl, hB⟩
        ·
          have hgl := hwa _ (gi_mem (l := l) (i := i) (by omega))
          have hmul1 : 0 ≤ gi l i * t := Int.mul_nonneg hgl.1 (by omega)
          have hmul2 : gi l i * t ≤ 1000000000 * 1000 := Int.le_trans (Int.mul_le_mul_of_nonneg_right (by omega) (by omega)) (Int.mul_le_mul_of_nonneg_left ht2 (by decide))
          refine W_skip ?_
          refine thenN ?_
          refine W_seq ?_
          refine W_region ?_
          refine WR_val rfl (rn_move) ?_
          refine WR_val rfl (rn_move) ?_
          refine WR_val rfl (rn_move) ?_
          refine WR_val rfl (rn_indexSl1 (e := 2) (by kernel_rfl) rfl rfl (i) (by omega) (by omega)) ?_
          refine WR_val rfl (rn_load rfl (Ld.sl1 (h.below hB (Nat.le_refl _)) (by kernel_rfl) (iv_gi (l := l) (i := i) (by omega)))) ?_
          refine WR_val rfl (rn_move) ?_
          refine WR_val rfl (rn_mul rfl rfl (Coup.w64 (by omega))) ?_
          refine WR_mk rfl (mk_one (e := 2) (Value.int .i64 (gi l i * t)) ([Value.int .i64 (gi l i * t)]) ([Value.int .i64 0]) 1 (by kernel_rfl) (by kernel_rfl) rfl rfl rfl ⟨by decide, by decide⟩ (fun g71 w71 hg71 hr71 hb71 => ?_))
          have ge_hB_g71 := Nat.le_trans hB.size hg71
          have ge_hBi_g71 := Nat.le_trans hBi.size hg71
          replace hB := hB.acc hb71
          replace hBi := hBi.acc hb71
          have hs71 := hr71.slA (m := 1) (sz := 1) rfl (by unfold maxLen; omega)
          have h9 := h9.new hBi
          have h10 := h10.new hBi
          have h11 := h11.new hBi
          have sz_hB_72 := hB.size
          refine WR_mk rfl (mk_append (e := 2) (sz := 1) (bytes := 8) (z := Value.int .i64 0) (by kernel_rfl) rfl (by kernel_rfl) rfl (by decide) rfl h9 rfl hs71 (by simp [Value.oneCell']) (by unfold maxLen; omega) (by omega) (fun hm0 => by omega) (fun v72 w72 hv72 hgr72 hfr72 => ?_))
          replace hB := hB.own h9 hgr72 (by omega)
          have k10 := apart_kept h10 hgr72 ha9a
          have k11 := apart_kept h11 hgr72 ha9b
          have ha9a := apart_next h10 hfr72 ha9a
          have ha9b := apart_next h11 hfr72 ha9b
          have h9 : ownsAt w72 w.heap.size 2 1 v72 (i + 1) (iv ((l.map (· * t)).take (i + 1))) := by rw [take_snoc (l := l.map (· * t)) (x := gi l i * t) (by rw [List.getElem?_map, gi_get (by omega)]; rfl), iv_append]; exact hv72
          refine WR_val rfl (rn_assign) ?_
          refine WR_nil ?_
          refine thenN ?_
          refine W_seq ?_
          refine W_seq ?_
          refine W_region ?_
          refine WR_val rfl (rn_assign) ?_
          refine WR_nil ?_
          refine thenN ?_
          refine W_block ?_
          refine W_loop (α := Nat × Value) (0, v10) (fun k => [(13, .int .i64 (k.1 : Nat)), (10, k.2), (12, .int .i64 (i : Nat)), (11, v11), (9, v72), (0, .int .i64 a), (1, .slice (some ⟨g1, o1, none⟩) n cp), (2, .int .i64 t), (3, .slice p3 n3 cp3)])
            (fun k w' => k.1 ≤ n3 ∧ ownsAt w' w.heap.size 2 1 v72 (i + 1) (iv ((l.map (· * t)).take (i + 1))) ∧ ownsAt w' w.heap.size 2 1 k.2 ((withT c l i).length + saysT (ps.take k.1) i) (iv (withT c l i ++ List.replicate (saysT (ps.take k.1) i) 0)) ∧ ownsAt w' w.heap.size 3 1 v11 i (iv (fromL c l i))
              ∧ (∀ g, v72.ownBlock = some g → k.2.ownBlock ≠ some g) ∧ (∀ g, k.2.ownBlock = some g → v11.ownBlock ≠ some g) ∧ Below w.heap.size w w') (fun k => n3 - k.1)
            ⟨rfl, rfl, rfl, rfl, rfl, rfl, rfl, rfl, rfl, rfl⟩ ⟨Nat.zero_le _, h9, by simpa [saysT] using k10, k11, ha9a, ha10, hB⟩ ?_
          clear hB h9 h10 h11 k10 k11 ha9a ha10 hBi
          rintro ⟨k, v10⟩ f wk ⟨hk, h9, h10, h11, ha9a, ha10, hB⟩
          simp only at hk h10 ha9a ha10
          dsimp only
          have hBi := Below.refl wk.heap.size wk
          have hcnt : saysT (ps.take k) i ≤ 30 := by
            have := List.countP_le_length (p := fun p : Int => decide (p = (i : Int))) (l := ps.take k)
            rw [List.length_take] at this
            unfold saysT; omega
          have hWi := hWs i
          refine W_seq ?_
          refine W_seq ?_
          refine W_region ?_
          refine WR_val rfl (rn_move) ?_
          refine WR_val rfl (rn_move) ?_
          refine WR_val rfl (rn_lenSl (e := 3) (sz := 1) (by kernel_rfl) rfl rfl) ?_
          refine WR_val rfl (rn_lss rfl rfl) ?_
          refine WR_nil ?_
          refine thenN ?_
          refine W_ifp rfl (fun hltk => ?_) (fun hltk => ?_)
          ·
            refine W_skip ?_
            refine thenN ?_
            refine W_seq ?_
            refine W_block ?_
            refine W_seq ?_
            have hobt := h3.some (by omega)
            obtain ⟨g3, o3, rfl, hg3⟩ := hobt
            have hsn := saysT_snoc (ps := ps) (k := k) (by omega) i
            refine W_region ?_
            refine WR_val rfl (rn_move) ?_
            refine WR_val rfl (rn_move) ?_
            refine WR_val rfl (rn_indexSl1 (e := 3) (by kernel_rfl) rfl rfl (k) (by omega) (by omega)) ?_
            refine WR_val rfl (rn_load rfl (Ld.sl1 (h3.below hB (Nat.le_refl _)) (by kernel_rfl) (iv_gi (l := ps) (i := k) (by omega)))) ?_
            refine WR_val rfl (rn_move) ?_
            refine WR_val rfl (rn_eql rfl rfl) ?_
            refine WR_nil ?_
            refine thenN ?_
            refine W_ifp rfl (fun hsay => ?_) (fun hsay => ?_)
            ·
              refine W_region ?_
              refine WR_val rfl (rn_move) ?_
              refine WR_mk rfl (mk_one (e := 2) (Value.int .i64 0) ([Value.int .i64 0]) ([Value.int .i64 0]) 1 (by kernel_rfl) (by kernel_rfl) rfl rfl rfl ⟨by decide, by decide⟩ (fun g86 w86 hg86 hr86 hb86 => ?_))
              have ge_hB_g86 := Nat.le_trans hB.size hg86
              have ge_hBi_g86 := Nat.le_trans hBi.size hg86
              replace hB := hB.acc hb86
              replace hBi := hBi.acc hb86
              have hs86 := hr86.slA (m := 1) (sz := 1) rfl (by unfold maxLen; omega)
              have h9 := h9.new hBi
              have h10 := h10.new hBi
              have h11 := h11.new hBi
              have sz_hB_87 := hB.size
              refine WR_mk rfl (mk_append (e := 2) (sz := 1) (bytes := 8) (z := Value.int .i64 0) (by kernel_rfl) rfl (by kernel_rfl) rfl (by decide) rfl h10 rfl hs86 (by simp [Value.oneCell']) (by unfold maxLen; omega) (by omega) (fun hm0 => by omega) (fun v87 w87 hv87 hgr87 hfr87 => ?_))
              replace hB := hB.own h10 hgr87 (by omega)
              have k9 := apart_kept h9 hgr87 (apart_symm ha9a)
              have k11 := apart_kept h11 hgr87 ha10
              have ha9a := apart_symm (apart_next h9 hfr87 (apart_symm ha9a))
              have ha10 := apart_next h11 hfr87 ha10
              refine WR_val rfl (rn_assign) ?_
              refine WR_nil ?_
              refine blockN ?_
              refine thenN ?_
              refine W_region ?_
              refine WR_val rfl (rn_move) ?_
              refine WR_val rfl (rn_add rfl rfl (Coup.w64 (by omega))) ?_
              refine WR_val rfl (rn_assign) ?_
              refine WR_nil ?_
              rw [if_pos hsay] at hsn
              refine loopN ⟨(k + 1, v87), by simp only; omega, ⟨rfl, rfl, rfl, rfl, rfl, rfl, rfl, rfl, rfl, rfl⟩, by simp only; omega, k9, ?_, k11, ha9a, ha10, hB⟩
              simp only
              rw [hsn, List.replicate_succ', ← List.append_assoc, iv_append, ← Nat.add_assoc]
              exact hv87
            ·
              rw [if_neg hsay] at hsn
              refine W_skip ?_
              refine blockN ?_
              refine thenN ?_
              refine W_region ?_
              refine WR_val rfl (rn_move) ?_
              refine WR_val rfl (rn_add rfl rfl (Coup.w64 (by omega))) ?_
              refine WR_val rfl (rn_assign) ?_
              refine WR_nil ?_
              refine loopN ⟨(k + 1, v10), by simp only; omega, ⟨rfl, rfl, rfl, rfl, rfl, rfl, rfl, rfl, rfl, rfl⟩, by simp only; omega, h9, ?_, h11, ha9a, ha10, hB⟩
              simp only
              rw [hsn, Nat.add_zero]
              exact h10
          ·
            obtain rfl : k = n3 := by omega
            rw [List.take_of_length_le (by omega), hc] at h10
            obtain ⟨p10, c10, hv10e⟩ := h10.form
            subst hv10e
            have hfb := hWs (i + 1)
            rw [withT_len, fromT] at hfb
            refine W_exit ?_
            refine thenX ?_
            refine loopX ?_
            refine blockX ?_
            refine thenN ?_
            refine W_seq ?_
            refine W_region ?_
            refine WR_val rfl (rn_move) ?_
            refine WR_val rfl (rn_move) ?_
            refine WR_val rfl (rn_lenSl (e := 2) (sz := 1) (by kernel_rfl) rfl rfl) ?_
            refine WR_mk rfl (mk_one (e := 3) (Value.int .i64 (fromT c l i : Int)) ([Value.int .i64 (fromT c l i : Int)]) ([Value.int .i64 0]) 1 (by kernel_rfl) (by kernel_rfl) rfl rfl rfl ⟨by decide, by decide⟩ (fun g91 w91 hg91 hr91 hb91 => ?_))
            have ge_hB_g91 := Nat.le_trans hB.size hg91
            have ge_hBi_g91 := Nat.le_trans hBi.size hg91
            replace hB := hB.acc hb91
            replace hBi := hBi.acc hb91
            have hs91 := hr91.slA (m := 1) (sz := 1) rfl (by unfold maxLen; omega)
            have h9 := h9.new hBi
            have h10 := h10.new hBi
            have h11 := h11.new hBi
            have sz_hB_92 := hB.size
            refine WR_mk rfl (mk_append (e := 3) (sz := 1) (bytes := 8) (z := Value.int .i64 0) (by kernel_rfl) rfl (by kernel_rfl) rfl (by decide) rfl h11 rfl hs91 (by simp [Value.oneCell']) (by unfold maxLen; omega) (by omega) (fun hm0 => by omega) (fun v92 w92 hv92 hgr92 hfr92 => ?_))
            replace hB := hB.own h11 hgr92 (by omega)
            have k9 := apart_kept h9 hgr92 (apart_symm ha9b)
            have k10 := apart_kept h10 hgr92 (apart_symm ha10)
            have ha9b := apart_symm (apart_next h9 hfr92 (apart_symm ha9b))
            have ha10 := apart_symm (apart_next h10 hfr92 (apart_symm ha10))
            have hBj := Below.refl w92.heap.size w92
            refine WR_val rfl (rn_assign) ?_
            refine WR_nil ?_
            refine thenN ?_
            refine W_region ?_
            refine WR_val rfl (rn_move) ?_
            refine WR_val rfl (rn_move) ?_
            refine WR_val rfl (rn_move) ?_
            refine WR_val rfl (rn_indexSl1 (e := 2) (by kernel_rfl) rfl rfl (i) (by omega) (by omega)) ?_
            refine WR_val rfl (rn_load rfl (Ld.sl1 (h.below hB (Nat.le_refl _)) (by kernel_rfl) (iv_gi (l := l) (i := i) (by omega)))) ?_
            refine WR_mk rfl (mk_one (e := 2) (Value.int .i64 (gi l i)) ([Value.int .i64 (gi l i)]) ([Value.int .i64 0]) 1 (by kernel_rfl) (by kernel_rfl) rfl rfl rfl ⟨by decide, by decide⟩ (fun g98 w98 hg98 hr98 hb98 => ?_))
            have ge_hB_g98 := Nat.le_trans hB.size hg98
            have ge_hBj_g98 := Nat.le_trans hBj.size hg98
            replace hB := hB.acc hb98
            replace hBj := hBj.acc hb98
            have hs98 := hr98.slA (m := 1) (sz := 1) rfl (by unfold maxLen; omega)
            have h9 := k9.new hBj
            have h10 := k10.new hBj
            have h11 := hv92.new hBj
            have sz_hB_99 := hB.size
            refine WR_mk rfl (mk_append (e := 2) (sz := 1) (bytes := 8) (z := Value.int .i64 0) (by kernel_rfl) rfl (by kernel_rfl) rfl (by decide) rfl h10 rfl hs98 (by simp [Value.oneCell']) (by unfold maxLen; omega) (by omega) (fun hm0 => by omega) (fun v99 w99 hv99 hgr99 hfr99 => ?_))
            replace hB := hB.own h10 hgr99 (by omega)
            have k9 := apart_kept h9 hgr99 (apart_symm ha9a)
            have k11 := apart_kept h11 hgr99 ha10
            have ha9a := apart_symm (apart_next h9 hfr99 (apart_symm ha9a))
            have ha10 := apart_next h11 hfr99 ha10
            refine WR_val rfl (rn_assign) ?_
            refine WR_nil ?_
            refine blockN ?_
            refine thenN ?_
            refine W_region ?_
            refine WR_val rfl (rn_move) ?_
            refine WR_val rfl (rn_add rfl rfl (Coup.w64 (by omega))) ?_
            refine WR_val rfl (rn_assign) ?_
            refine WR_nil ?_
            refine loopN ⟨(i + 1, v72, v99, v92), by simp only; omega, ⟨rfl, rfl, rfl, rfl, rfl, rfl, rfl, rfl, rfl⟩, by simp only; omega, ?_, k9, ?_, ?_, ha9a, ha9b, ha10, hB⟩
            · intro j hj
              simp only at hj
              rcases Nat.lt_or_eq_of_le (Nat.le_of_lt_succ hj) with h1 | h1
              · exact hsm j h1
              · rw [h1]; omega
            · simp only
              rw [withT_len]
              show ownsAt _ _ _ _ _ _ (iv (withT c l i ++ List.replicate (c i) 0 ++ [gi l i]))
              rw [iv_append]
              exact hv99
            · simp only
              rw [fromL_succ, iv_append]
              exact k11
      ·
        obtain rfl : i = n := by omega
        have hWn := hWs i
        have hml9 : (l.map (· * t)).length = i := by rw [List.length_map]; exact hl
        have hok9 : okW (l.map (· * t)) = true := okW_iff.2 fun x hx => by
          obtain ⟨y, hy, rfl⟩ := List.mem_map.1 hx
          obtain ⟨j, hj, rfl⟩ := List.mem_iff_getElem.1 hy
          have h1 := hwa _ hy
          have h2 := hsm j (by omega)
          have e : gi l j = l[j] := by simp [gi, List.getD_eq_getElem?_getD, List.getElem?_eq_getElem hj]
          rw [e] at h2
          exact ⟨Int.mul_nonneg h1.1 (by omega), Int.le_trans (Int.mul_le_mul_of_nonneg_right h2 (by omega)) (Int.mul_le_mul_of_nonneg_left ht2 (by decide))⟩
        have hs9 : sumI (l.map (· * t)) ≠ 0 := by
          rw [sumI_times]
          have := Int.mul_pos hs (show 0 < t by omega)
          omega
        have hW : okW (withT c l i) = true := okW_iff.2 (withT_mem (P := fun x => 0 ≤ x ∧ x ≤ 1000000000000) (by omega) (by decide) hwa)
        have hsW : sumI (withT c l i) = sumI l := by rw [withT_sum (by omega), List.take_of_length_le (by omega)]
        have hE1 := dealE_zero (a := a) (l := l) (by omega) hw.1 hw.2 ha
        have hE2 := dealE_zero (a := a) (by omega) hok9 hs9 ha
        have hE3 := dealE_zero (a := a) (l := withT c l i) (by omega) hW (by omega) ha
        have hD2 := dealS_times (a := a) hs (show 0 < t by omega)
        have hD3 : ∀ k, k < i → gi (dealS a (withT c l i)) (fromT c l k) = gi (dealS a l) k := fun k hk => by
          have := dealS_with (a := a) (ws := l) c hs (i := k) (by omega)
          rwa [hl] at this
        have hDl3 := dealS_len a (withT c l i)
        have hDl : (dealS a l).length = i := by rw [dealS_len, hl]
        have hDb := dealS_bound (a := a) (ws := l) ha.1 hs fun x hx => (hwa x hx).1
        have hDsum := dealS_sum (a := a) hs
        obtain ⟨D, hD⟩ : ∃ D, dealS a l = D := ⟨_, rfl⟩
        obtain ⟨D3, hDe3⟩ : ∃ D3, dealS a (withT c l i) = D3 := ⟨_, rfl⟩
        rw [hD] at hD2 hDl hDb hDsum hD3
        rw [hDe3] at hD3 hDl3
        have hDs := partial_sum hDb
        rw [List.take_of_length_le (by omega)] at h9
        obtain ⟨p9, c9, hv9e⟩ := h9.form
        obtain ⟨p10, c10, hv10e⟩ := h10.form
        obtain ⟨p11, c11, hv11e⟩ := h11.form
        subst hv9e hv10e hv11e
        have h9 := h9.sl
        have h10 := h10.sl
        have h11 := h11.sl
        have hm10 := h10.max
        refine W_exit ?_
        refine thenX ?_
        refine loopX ?_
        refine blockX ?_
        refine thenN ?_
        refine W_seq ?_
        refine W_region ?_
        refine WR_val rfl (rn_move) ?_
        refine WR_val rfl (rn_move) ?_
        refine WR_ent rfl (rn_call (by kernel_rfl) rfl) (dealYes a p i cp l D wr (h.below hB (Nat.le_refl _)) hok hai hE1 hD) ?_
        rintro _ w103 ⟨g1, rfl, hg1, hr1, hb103⟩
        replace hB := hB.acc hb103
        replace hBi := hBi.acc hb103
        have hD1 : SlAt w103 (some ⟨g1, 0, none⟩) i 1 (iv D) := hr1.slA (m := i) (sz := 1) (by rw [iv_length]; omega) hmax
        have hBj := Below.refl (w103).heap.size w103
        refine WR_val rfl (rn_move) ?_
        refine WR_val rfl (rn_extract rfl rfl) ?_
        refine WR_val rfl (rn_extract rfl rfl) ?_
        refine WR_val rfl (rn_assign) ?_
        refine WR_val rfl (rn_assign) ?_
        refine WR_nil ?_
        refine thenN ?_
        refine W_seq ?_
        refine W_region ?_
        refine WR_val rfl (rn_move) ?_
        refine WR_val rfl (rn_move) ?_
        refine WR_ent rfl (rn_call (by kernel_rfl) rfl) (dealYes a p9 i c9 (l.map (· * t)) D w103 (h9.below hBi (Nat.le_refl _)) (okI_okW hok9) hai hE2 hD2) ?_
        rintro _ w109 ⟨g2, rfl, hg2, hr2, hb109⟩
        replace hB := hB.acc hb109
        replace hBi := hBi.acc hb109
        replace hBj := hBj.acc hb109
        have hD2' : SlAt w109 (some ⟨g2, 0, none⟩) i 1 (iv D) := hr2.slA (m := i) (sz := 1) (by rw [iv_length]; omega) hmax
        have hBk := Below.refl (w109).heap.size w109
        refine WR_val rfl (rn_move) ?_
        refine WR_val rfl (rn_extract rfl rfl) ?_
        refine WR_val rfl (rn_extract rfl rfl) ?_
        refine WR_val rfl (rn_assign) ?_
        refine WR_val rfl (rn_assign) ?_
        refine WR_nil ?_
        refine thenN ?_
        refine W_seq ?_
        refine W_region ?_
        refine WR_val rfl (rn_move) ?_
        refine WR_val rfl (rn_move) ?_
        refine WR_ent rfl (rn_call (by kernel_rfl) rfl) (dealYes a p10 (withT c l i).length c10 (withT c l i) D3 w109 (h10.below hBi (Nat.le_refl _)) (okI_okW hW) hai hE3 hDe3) ?_
        rintro _ w115 ⟨g3, rfl, hg3, hr3, hb115⟩
        replace hB := hB.acc hb115
        replace hBi := hBi.acc hb115
        replace hBj := hBj.acc hb115
        replace hBk := hBk.acc hb115
        have hD3' : SlAt w115 (some ⟨g3, 0, none⟩) (withT c l i).length 1 (iv D3) := hr3.slA (m := (withT c l i).length) (sz := 1) (by rw [iv_length]; omega) hm10
        have h11 := h11.below hBi (Nat.le_refl _)
        have hD1 := hD1.below hBj (Nat.le_refl _)
        have hD2' := hD2'.below hBk (Nat.le_refl _)
        have hBz := Below.refl (w115).heap.size w115
        refine WR_val rfl (rn_move) ?_
        refine WR_val rfl (rn_extract rfl rfl) ?_
        refine WR_val rfl (rn_extract rfl rfl) ?_
        refine WR_val rfl (rn_assign) ?_
        refine WR_val rfl (rn_assign) ?_
        refine WR_nil ?_
        refine thenN ?_
        refine W_seq ?_
        refine W_seq ?_
        refine W_region ?_
        refine WR_val rfl (rn_move) ?_
        refine WR_val rfl (rn_neq rfl rfl) ?_
        refine WR_val rfl (rn_move) ?_
        refine WR_fp 120 rfl ((by simp)) ?_
        refine WR_yes rfl ?_
        refine WR_val rfl (rn_move) ?_
        refine WR_yes rfl ?_
        refine WR_val rfl (rn_neq rfl rfl) ?_
        refine WR_val rfl (rn_pick_f rfl) ?_
        refine WR_val rfl (rn_move) ?_
        refine WR_fp 124 rfl ((by simp)) ?_
        refine WR_yes rfl ?_
        refine WR_val rfl (rn_move) ?_
        refine WR_yes rfl ?_
        refine WR_val rfl (rn_neq rfl rfl) ?_
        refine WR_val rfl (rn_pick_f rfl) ?_
        refine WR_val rfl (rn_move) ?_
        refine WR_fp 128 rfl ((by simp)) ?_
        refine WR_yes rfl ?_
        refine WR_val rfl (rn_move) ?_
        refine WR_yes rfl ?_
        refine WR_val rfl (rn_move) ?_
        refine WR_yes rfl ?_
        refine WR_ent rfl (rn_call (by kernel_rfl) rfl) (same14 (some ⟨g1, 0, none⟩) i i D (some ⟨g2, 0, none⟩) i i D w115 hD1 hD2') ?_
        rintro _ w131 ⟨rfl, hb131⟩
        replace hB := hB.acc hb131
        replace hBz := hBz.acc hb131
        refine WR_yes rfl ?_
        refine WR_val rfl (rn_not rfl) ?_
        refine WR_val rfl (rn_pick_f rfl) ?_
        refine WR_val rfl (rn_move) ?_
        refine WR_fnb 134 rfl ((by simp)) ?_
        refine WR_yes rfl ?_
        refine WR_val rfl (rn_move) ?_
        refine WR_yes rfl ?_
        refine WR_val rfl (rn_lenSl (e := 2) (sz := 1) (by kernel_rfl) rfl rfl) ?_
        refine WR_yes rfl ?_
        refine WR_val rfl (rn_move) ?_
        refine WR_yes rfl ?_
        refine WR_val rfl (rn_lenSl (e := 2) (sz := 1) (by kernel_rfl) rfl rfl) ?_
        refine WR_yes rfl ?_
        refine WR_val rfl (rn_neq rfl rfl) ?_
        refine WR_val rfl (rn_pick_f rfl) ?_
        refine WR_nil ?_
        refine thenN ?_
        refine W_fp rfl ((by simp)) ?_
        refine W_skip ?_
        refine thenN ?_
        refine W_seq ?_
        refine W_region ?_
        refine WR_val rfl (rn_assign) ?_
        refine WR_nil ?_
        refine thenN ?_
        refine W_seq ?_
        refine W_seq ?_
        refine W_region ?_
        refine WR_val rfl (rn_assign) ?_
        refine WR_nil ?_
        refine thenN ?_
        refine W_block ?_
        refine W_loop (α := Nat) 0 (fun k => [(21, .int .i64 (k : Nat)), (20, .int .i64 (sumI (D.take k))), (18, .slice (some ⟨g3, 0, none⟩) (withT c l i).length (withT c l i).length), (14, .slice (some ⟨g1, 0, none⟩) i i), (11, .slice p11 i c11), (0, .int .i64 a)])
          (fun k w' => k ≤ i ∧ Below w.heap.size w w' ∧ Below w115.heap.size w115 w') (fun k => i - k) ⟨rfl, rfl, rfl, rfl, rfl, rfl, rfl⟩ ⟨Nat.zero_le _, hB, hBz⟩ ?_
        clear hB hBz
        rintro k f wk ⟨hk, hB, hBz⟩
        refine W_seq ?_
        refine W_seq ?_
        refine W_region ?_
        refine WR_val rfl (rn_move) ?_
        refine WR_val rfl (rn_move) ?_
        refine WR_val rfl (rn_lenSl (e := 2) (sz := 1) (by kernel_rfl) rfl rfl) ?_
        refine WR_val rfl (rn_lss rfl rfl) ?_
        refine WR_nil ?_
        refine thenN ?_
        refine W_ifp rfl (fun hltk => ?_) (fun hltk => ?_)
        ·
          refine W_skip ?_
          refine thenN ?_
          refine W_seq ?_
          refine W_block ?_
          refine W_seq ?_
          refine W_seq ?_
          have hobt := h11.some (by omega)
          obtain ⟨g11, o11, rfl, hg11⟩ := hobt
          have hltk : k < i := by omega
          have hfk := fromT_lt (c := c) (ws := l) hltk
          refine W_draw' [] (by kernel_rfl) ?_
          intro w901 hb901 hS901
          replace hB := hB.acc hb901
          replace hBz := hBz.acc hb901
          have hB_d901 := hB
          have hBz_d901 := hBz
          refine WA_take 0 (by kernel_rfl) rfl (fun _ _ => rn_move) ?_
          refine WA_take 1 (by kernel_rfl) rfl (fun _ _ => rn_move) ?_
          refine WA_take 2 (by kernel_rfl) rfl (fun _ _ => rn_move) ?_
          refine WA_take 3 (by kernel_rfl) rfl (fun _ _ => rn_indexSl1 (e := 3) (by kernel_rfl) rfl rfl (k) (by omega) (by omega)) ?_
          refine WA_take 4 (by kernel_rfl) rfl (fun w' hS' => rn_load rfl (Ld.sl1 (h11.below (hBz_d901.kpd hS' (by first | (simp; done) | (simp; omega))) (Nat.le_refl _)) (by kernel_rfl) (iv_some (x := (fromT c l k : Int)) (by rw [gi_get (by rw [fromL_len]; omega), fromL_gi _ _ _ _ hltk])))) ?_
          refine WA_take 5 (by kernel_rfl) rfl (fun _ _ => rn_indexSl1 (e := 2) (by kernel_rfl) rfl rfl (fromT c l k) (by omega) (by omega)) ?_
          refine WA_take 6 (by kernel_rfl) rfl (fun w' hS' => rn_load rfl (Ld.sl1 (hD3'.below (hBz_d901.kpd hS' (by first | (simp; done) | (simp; omega))) (Nat.le_refl _)) (by kernel_rfl) (iv_gi (l := D3) (i := fromT c l k) (by omega)))) ?_
          refine WA_take 7 (by kernel_rfl) rfl (fun _ _ => rn_move) ?_
          refine WA_take 8 (by kernel_rfl) rfl (fun _ _ => rn_move) ?_
          refine WA_take 9 (by kernel_rfl) rfl (fun _ _ => rn_indexSl1 (e := 2) (by kernel_rfl) rfl rfl (k) (by omega) (by omega)) ?_
          refine WA_take 10 (by kernel_rfl) rfl (fun w' hS' => rn_load rfl (Ld.sl1 (hD1.below (hBz_d901.kpd hS' (by first | (simp; done) | (simp; omega))) (Nat.le_refl _)) (by kernel_rfl) (iv_gi (l := D) (i := k) (by omega)))) ?_
          refine WA_take 11 (by kernel_rfl) rfl (fun _ _ => rn_neq rfl rfl) ?_
          refine WA_done (by kernel_rfl) ?_
          refine thenN ?_
          refine W_fp rfl ((by rw [hD3 k hltk]; simp)) ?_
          refine W_skip ?_
          refine thenN ?_
          have hsi := hDs k (by omega)
          have hsi2 : (k : Int) * (a + 1) ≤ 64 * 1000000000001 := Int.le_trans (Int.mul_le_mul_of_nonneg_left (by omega) (by omega)) (Int.mul_le_mul_of_nonneg_right (by omega) (by decide))
          have hdi := hDb _ (gi_mem (l := D) (i := k) (by omega))
          have htk := take_snoc (gi_get (l := D) (i := k) (by omega))
          refine W_region ?_
          refine WR_val rfl (rn_move) ?_
          refine WR_val rfl (rn_move) ?_
          refine WR_val rfl (rn_move) ?_
          refine WR_val rfl (rn_indexSl1 (e := 2) (by kernel_rfl) rfl rfl (k) (by omega) (by omega)) ?_
          refine WR_val rfl (rn_load rfl (Ld.sl1 (hD1.below hBz (Nat.le_refl _)) (by kernel_rfl) (iv_gi (l := D) (i := k) (by omega)))) ?_
          refine WR_val rfl (rn_add rfl rfl (Coup.w64 (by omega))) ?_
          refine WR_val rfl (rn_assign) ?_
          refine WR_nil ?_
          refine blockN ?_
          refine thenN ?_
          refine W_region ?_
          refine WR_val rfl (rn_move) ?_
          refine WR_val rfl (rn_add rfl rfl (Coup.w64 (by omega))) ?_
          refine WR_val rfl (rn_assign) ?_
          refine WR_nil ?_
          refine loopN ⟨k + 1, by omega, ⟨rfl, vi (by rw [htk, sumI_snoc]), rfl, rfl, rfl, rfl, rfl⟩, by omega, hB, hBz⟩
        ·
          obtain rfl : k = i := by omega
          rw [List.take_of_length_le (by omega), hDsum]
          refine W_exit ?_
          refine thenX ?_
          refine loopX ?_
          refine blockX ?_
          refine thenN ?_
          refine W_seq ?_
          refine W_region ?_
          refine WR_val rfl (rn_move) ?_
          refine WR_val rfl (rn_move) ?_
          refine WR_val rfl (rn_eql rfl rfl) ?_
          refine WR_val rfl (rn_move) ?_
          refine WR_tp 168 rfl ((rfl)) ?_
          refine WR_yes rfl ?_
          refine WR_ent rfl (rn_call (by kernel_rfl) rfl) (known10 wk) ?_
          rintro _ w169 ⟨rfl, hb169⟩
          replace hB := hB.acc hb169
          replace hBz := hBz.acc hb169
          refine WR_val rfl (rn_pick_t rfl) ?_
          refine WR_val rfl (rn_assign) ?_
          refine WR_nil ?_
          refine thenN ?_
          refine W_ret ?_
          refine ret_ret [_] ⟨rfl, trivial⟩ ?_
          exact ⟨rfl, hB⟩
end Go.Proofs.Ytknjiohhlemeiaa
