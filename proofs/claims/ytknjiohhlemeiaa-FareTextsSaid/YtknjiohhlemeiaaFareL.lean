/- Dealing out: the code's own way. -/
import Derived.Test.YtknjiohhlemeiaaFareK
namespace Go.Proofs.Ytknjiohhlemeiaa
open Go Go.RowKit Coup

/-- The errors of dealing: 0 where there is none. -/
def dealE (a : Int) (ws : List Int) : Int := if 64 < ws.length then 3 else if okW ws = true ∧ sumI ws ≠ 0 then if someM a = true then 0 else 14 else 2
theorem divC (a x s q : Int) (L : Nat) (w : World) (ha : 0 ≤ a ∧ a ≤ 1000000000000) (hx : 0 ≤ x ∧ x ≤ s) (hs : 0 < s ∧ s ≤ 1000000000000000) (hq : a * x / s = q) (hL : a * x % s = (L : Int)) :
    Calls Try.prog 29 [.int .u64 (a * x / 18446744073709551616), .int .u64 (a * x % 18446744073709551616), .int .u64 s].toArray w (Ret fun v w' => v = .tuple #[.int .u64 q, .int .u64 (L : Int)] ∧ Below w.heap.size w w') := by
  have h0 : 0 ≤ a * x := Int.mul_nonneg ha.1 hx.1
  have h1 : a * x ≤ 1000000000000 * s := Int.le_trans (Int.mul_le_mul_of_nonneg_right ha.2 hx.1) (Int.mul_le_mul_of_nonneg_left hx.2 (by decide))
  have := div64 (a * x / 18446744073709551616) (a * x % 18446744073709551616) s w ⟨Int.ediv_nonneg h0 (by decide), by omega⟩ (by omega) (by omega)
  rw [show a * x / 18446744073709551616 * 18446744073709551616 + a * x % 18446744073709551616 = a * x by omega, hq, hL] at this
  exact this
def shp (a s : Int) (ws : List Int) (i : Nat) : List Int := sharesOf a s (ws.take i) ++ List.replicate (ws.length - i) 0
theorem sharesOf_len (a s : Int) (ws : List Int) : (sharesOf a s ws).length = ws.length := by simp [sharesOf]
theorem lostOf_len (a s : Int) (ws : List Int) : (lostOf a s ws).length = ws.length := by simp [lostOf]
theorem shp_len (a s : Int) (ws : List Int) {i : Nat} (h : i ≤ ws.length) : (shp a s ws i).length = ws.length := by simp [shp, sharesOf_len]; omega
theorem sharesOf_snoc (a s : Int) (ws : List Int) (x : Int) : sharesOf a s (ws ++ [x]) = sharesOf a s ws ++ [a * x / s] := by simp [sharesOf]
theorem lostOf_snoc (a s : Int) (ws : List Int) (x : Int) : lostOf a s (ws ++ [x]) = lostOf a s ws ++ [a * x % s] := by simp [lostOf]
theorem shp_set {a s : Int} {ws : List Int} {i : Nat} {x : Int} (h : ws[i]? = some x) : (shp a s ws i).set i (a * x / s) = shp a s ws (i + 1) := by
  have hl := (List.getElem?_eq_some_iff.1 h).1
  unfold shp
  rw [take_snoc h, sharesOf_snoc, List.set_append_right _ _ (by rw [sharesOf_len, List.length_take]; omega), sharesOf_len, List.length_take, Nat.min_eq_left (by omega), Nat.sub_self]
  obtain ⟨m, hm⟩ : ∃ m, ws.length - i = m + 1 := ⟨ws.length - i - 1, by omega⟩
  rw [hm, show ws.length - (i + 1) = m by omega, List.replicate_succ]
  simp
theorem shp_zero (a s : Int) (ws : List Int) : shp a s ws 0 = List.replicate ws.length 0 := by simp [shp, sharesOf]
theorem shp_end (a s : Int) (ws : List Int) : shp a s ws ws.length = sharesOf a s ws := by simp [shp]
theorem shp_get {a s : Int} {ws : List Int} {i : Nat} {x : Int} (h : ws[i]? = some x) : gi (shp a s ws (i + 1)) i = a * x / s := by
  rw [← shp_set h, gi_set (by rw [shp_len _ _ _ (by have := (List.getElem?_eq_some_iff.1 h).1; omega)]; exact (List.getElem?_eq_some_iff.1 h).1), if_pos rfl]

theorem act_set {lo : List Int} {j : Nat} (hjl : j < lo.length) (hj0 : 0 ≤ gi lo j) : act lo = act (lo.set j (-1)) + 1 := by
  unfold act
  rw [List.length_set]
  refine countP_one _ _ j lo.length hjl (decide_eq_true hj0) ?_ fun k hk _ => ?_
  · rw [gi_set hjl, if_pos rfl]; rfl
  · rw [gi_set hjl, if_neg hk]

set_option maxHeartbeats 2000000 in
theorem deal11 (a : Int) (p : Option Addr) (n c : Nat) (ws : List Int) (w : World) (h : SlAt w p n 1 (iv ws)) (hok : okI ws) (hai : -9223372036854775808 ≤ a ∧ a ≤ 9223372036854775807) :
    Calls Try.prog 11 [.int .i64 a, .slice p n c].toArray w
      (Ret fun v w' => Below w.heap.size w w' ∧ ((dealE a ws ≠ 0 ∧ v = .tuple #[.slice none 0 0, .int .i64 (dealE a ws)]) ∨ (dealE a ws = 0 ∧ ∃ g, v = .tuple #[.slice (some ⟨g, 0, none⟩) n n, .int .i64 0] ∧ w.heap.size ≤ g ∧ row w' g (iv (dealS a ws)) 2))) := by
  have hB := Below.refl w.heap.size w
  have hl : ws.length = n := by simpa [iv_length] using h.len
  have hmax := h.max
  have hml : maxLen = 9223372036854775807 := by decide
  refine calls_W (fn := Try.f11) (rs := [.tmp 4, .tmp 5]) (n := 92) Try.func11 rfl rfl Try.ntmps11 (by kernel_rfl) rfl ?_
  refine W_seq ?_
  refine W_region ?_
  refine WR_val rfl (rn_assign) ?_
  refine WR_val rfl (rn_assign) ?_
  refine WR_nil ?_
  refine thenN ?_
  refine W_seq ?_
  refine W_region ?_
  refine WR_val rfl (rn_move) ?_
  refine WR_ent rfl (rn_call (by kernel_rfl) rfl) (all26 p n c ws w h) ?_
  rintro _ _ ⟨rfl, rfl⟩
  refine WR_val rfl (rn_move) ?_
  refine WR_val rfl (rn_extract rfl rfl) ?_
  refine WR_val rfl (rn_extract rfl rfl) ?_
  refine WR_val rfl (rn_assign) ?_
  refine WR_val rfl (rn_assign) ?_
  refine WR_nil ?_
  refine thenN ?_
  refine W_seq ?_
  refine W_block ?_
  refine W_seq ?_
  refine W_region ?_
  refine WR_val rfl (rn_move) ?_
  refine WR_val rfl (rn_neq rfl rfl) ?_
  refine WR_val rfl (rn_assign) ?_
  refine WR_nil ?_
  refine thenN ?_
  refine W_ifp rfl (fun hne => ?_) (fun hne => ?_)
  ·
    refine W_seq ?_
    refine W_region ?_
    refine WR_val rfl (rn_move) ?_
    refine WR_val rfl (rn_assign) ?_
    refine WR_val rfl (rn_assign) ?_
    refine WR_nil ?_
    refine thenN ?_
    refine W_ret ?_
    refine blockR ?_
    refine thenR ?_
    refine ret_ret [_, _] ⟨rfl, rfl, trivial⟩ ?_
    have hE : dealE a ws = (allV ws).2 := by
      unfold dealE allV at *
      split
      · rfl
      · split
        · rename_i h1 h2; rw [if_neg h1, if_pos h2] at hne; exact absurd rfl hne
        · rfl
    exact ⟨hB, Or.inl ⟨by rw [hE]; exact hne, by rw [hE]; rfl⟩⟩
  ·
    have hok2 : ws.length ≤ 64 ∧ okW ws = true ∧ sumI ws ≠ 0 := by
      unfold allV at hne
      split at hne
      · simp at hne
      · split at hne
        · rename_i h1 h2; exact ⟨by omega, h2.1, h2.2⟩
        · simp at hne
    have hV : (allV ws).1 = sumI ws := by unfold allV; rw [if_neg (by omega), if_pos ⟨hok2.2.1, hok2.2.2⟩]
    have hE : dealE a ws = if someM a = true then 0 else 14 := by unfold dealE; rw [if_neg (by omega), if_pos ⟨hok2.2.1, hok2.2.2⟩]
    have hs0 := okW_sum hok2.2.1
    have hwa := okW_iff.1 hok2.2.1
    obtain ⟨s, hs⟩ : ∃ s, s = sumI ws := ⟨_, rfl⟩
    rw [← hs] at hV hs0
    have hsp : 0 < s := by have := hok2.2.2; omega
    have hwl : ∀ x ∈ ws, 0 ≤ x ∧ x ≤ s := fun x hx => ⟨(hwa x hx).1, by rw [hs]; exact mem_le_sumI (fun y hy => (hwa y hy).1) x hx⟩
    refine W_seq ?_
    refine W_region ?_
    refine WR_val rfl (rn_move) ?_
    refine WR_ent rfl (rn_call (by kernel_rfl) rfl) (some27 a w) ?_
    rintro _ _ ⟨rfl, rfl⟩
    refine WR_val rfl (rn_not rfl) ?_
    refine WR_val rfl (rn_assign) ?_
    refine WR_nil ?_
    refine thenN ?_
    refine W_ifnb rfl (fun hsm => ?_) (fun hsm => ?_)
    ·
      refine W_seq ?_
      refine W_region ?_
      refine WR_val rfl (rn_assign) ?_
      refine WR_val rfl (rn_assign) ?_
      refine WR_nil ?_
      refine thenN ?_
      refine W_ret ?_
      refine blockR ?_
      refine thenR ?_
      refine ret_ret [_, _] ⟨rfl, rfl, trivial⟩ ?_
      rw [hE, if_neg (by rw [hsm]; simp)]
      exact ⟨hB, Or.inl ⟨by decide, rfl⟩⟩
    ·
      rw [if_pos hsm] at hE
      have hab := someM_iff.1 hsm
      refine W_skip ?_
      refine blockN ?_
      refine thenN ?_
      refine W_seq ?_
      refine W_region ?_
      refine WR_val rfl (rn_move) ?_
      refine WR_val rfl (rn_lenSl (e := 2) (sz := 1) (by kernel_rfl) rfl rfl) ?_
      refine WR_mk rfl (mk_make (e := 2) n [.int .i64 0] 1 8 (.int .i64 0) (by kernel_rfl) (by kernel_rfl) ⟨_, rfl, rfl⟩ ⟨_, rfl, rfl⟩ (by simp) (by simp) (by omega) (by omega) (fun g33 w33 hg33 hr33 hb33 => ?_))
      have ge_hB_g33 := Nat.le_trans hB.size hg33
      replace hB := hB.acc hb33
      refine WR_val rfl (rn_assign) ?_
      refine WR_nil ?_
      refine thenN ?_
      refine W_seq ?_
      refine W_region ?_
      refine WR_mk rfl (mk_empty (e := 60) (sz := 2) (by kernel_rfl) (by kernel_rfl) (fun g34 w34 hg34 hr34 hb34 => ?_))
      have ge_hB_g34 := Nat.le_trans hB.size hg34
      have lt_g33_g34 : g33 < g34 := Nat.lt_of_lt_of_le hr33.lt hg34
      replace hr33 := hr33.new hb34
      replace hB := hB.acc hb34
      refine WR_mk rfl (mk_box ([_]) rfl (fun g35 w35 hg35 hr35 hb35 => ?_))
      have ge_hB_g35 := Nat.le_trans hB.size hg35
      have lt_g33_g35 : g33 < g35 := Nat.lt_of_lt_of_le hr33.lt hg35
      have lt_g34_g35 : g34 < g35 := Nat.lt_of_lt_of_le hr34.lt hg35
      replace hr33 := hr33.new hb35
      replace hr34 := hr34.new hb35
      replace hB := hB.acc hb35
      refine WR_val rfl (rn_assign) ?_
      refine WR_nil ?_
      refine thenN ?_
      refine W_seq ?_
      refine W_region ?_
      refine WR_val rfl (rn_move) ?_
      refine WR_val rfl (rn_assign) ?_
      refine WR_nil ?_
      refine thenN ?_
      refine W_seq ?_
      refine W_seq ?_
      refine W_region ?_
      refine WR_val rfl (rn_move) ?_
      refine WR_val rfl (rn_lenSl (e := 2) (sz := 1) (by kernel_rfl) rfl rfl) ?_
      refine WR_val rfl (rn_move) ?_
      refine WR_nil ?_
      refine thenN ?_
      refine W_block ?_
      have hr33 : row w35 g33 (iv (shp a s ws 0)) 2 := by
        rw [shp_zero, hl, iv, List.map_replicate]
        rwa [Nat.mul_one] at hr33
      have hh0 : HpAt w35 (g33 + 1) g35 [] := ⟨by omega, some ⟨g34, 0, none⟩, 0, hr35, hr34.owns (m := 0) (sz := 2) (by omega) rfl (by omega), by simp [Value.ownBlock]; omega⟩
      have hw33 : w.heap.size ≤ g33 + 1 := by omega
      clear hr34 hr35
      refine W_loop (α := Nat × List LossT) (0, []) (fun k => [(39, .int .i64 (k.1 : Nat)), (38, .int .i64 (n : Nat)), (37, .slice p n c), (10, .int .i64 (a - sumI (sharesOf a s (ws.take k.1)))), (9, .pointer (some ⟨g35, 0, none⟩)), (8, .slice (some ⟨g33, 0, none⟩) n n), (6, .int .u64 s), (0, .int .i64 a)])
        (fun k w' => k.1 ≤ n ∧ row w' g33 (iv (shp a s ws k.1)) 2 ∧ HpAt w' (g33 + 1) g35 k.2 ∧ HeapB k.2 k.2.length ∧ k.2.Perm (pairsF 0 (lostOf a s (ws.take k.1))) ∧ Below w.heap.size w w') (fun k => n - k.1)
        ⟨rfl, rfl, rfl, vi (by simp [sharesOf, sumI]), rfl, rfl, vi hV, rfl, rfl⟩ ⟨Nat.zero_le _, hr33, hh0, (fun k h1 h2 => by simp at h2), .refl _, hB⟩ ?_
      rintro ⟨i, H⟩ f wr ⟨hi, hrs, hhp, hhb, hperm, hB⟩
      simp only at hi hrs hhp hhb hperm
      dsimp only
      have hshb := share_bounds (ws := ws.take i) hab.1 hsp fun x hx => hwl x (List.mem_of_mem_take hx)
      have hq1 := sumI_le _ _ fun x hx => (hshb x hx).2
      have hq2 := sumI_ge _ 0 fun x hx => (hshb x hx).1
      have hHl : H.length ≤ i := by
        have h1 := pairsF_len (lostOf a s (ws.take i)) 0
        rw [lostOf_len, List.length_take] at h1
        rw [hperm.length_eq]; omega
      rw [sharesOf_len, List.length_take, Nat.min_eq_left (by omega)] at hq1 hq2
      have hq3 : (i : Int) * a ≤ 64 * 1000000000000 := Int.le_trans (Int.mul_le_mul_of_nonneg_left hab.2 (by omega)) (Int.mul_le_mul_of_nonneg_right (by omega) (by decide))
      have hsl := shp_len a s ws (i := i) (by omega)
      refine W_seq ?_
      refine W_region ?_
      refine WR_val rfl (rn_lss rfl rfl) ?_
      refine WR_nil ?_
      refine thenN ?_
      refine W_seq ?_
      refine W_ifp rfl (fun hlt => ?_) (fun hlt => ?_)
      ·
        refine W_skip ?_
        refine thenN ?_
        refine W_seq ?_
        refine W_block ?_
        refine W_seq ?_
        have hobt := slAt_getI h (i := i) (by omega)
        obtain ⟨x, hx⟩ := hobt
        have hobt := h.some (by omega)
        obtain ⟨gp, op, rfl, hgp⟩ := hobt
        have hxb := hwl x (List.mem_of_getElem? hx)
        have hp0 : 0 ≤ a * x := Int.mul_nonneg hab.1 hxb.1
        have hsx := hshb
        have hqx := share_bounds (ws := [x]) hab.1 hsp (by intro y hy; simp at hy; subst hy; exact hxb) (a * x / s) (by simp [sharesOf])
        have hlx := lost_bounds (a := a) hsp [x] (a * x % s) (by simp [lostOf])
        have hobt : ∃ L : Nat, a * x % s = (L : Int) := ⟨(a * x % s).toNat, by omega⟩
        obtain ⟨L, hL⟩ := hobt
        refine W_region ?_
        refine WR_val rfl (rn_move) ?_
        refine WR_val rfl (rn_indexSl1 (e := 2) (by kernel_rfl) rfl rfl (i) (by omega) (by omega)) ?_
        refine WR_val rfl (rn_load rfl (Ld.sl1 (h.below hB (Nat.le_refl _)) (by kernel_rfl) (iv_some hx))) ?_
        refine WR_val rfl (rn_assign) ?_
        refine WR_val rfl (rn_assign) ?_
        refine WR_nil ?_
        refine thenN ?_
        refine W_seq ?_
        refine W_region ?_
        refine WR_val rfl (rn_move) ?_
        refine WR_val rfl (rn_conv (k := .u64) (by kernel_rfl) (by kernel_rfl) rfl (wu64 (by omega))) ?_
        refine WR_val rfl (rn_move) ?_
        refine WR_val rfl (rn_conv (k := .u64) (by kernel_rfl) (by kernel_rfl) rfl (wu64 (by omega))) ?_
        refine WR_ent rfl (rn_call (by kernel_rfl) rfl) (mul64 a x wr (by omega) (by omega)) ?_
        rintro _ _ ⟨rfl, rfl⟩
        refine WR_val rfl (rn_move) ?_
        refine WR_val rfl (rn_extract rfl rfl) ?_
        refine WR_val rfl (rn_extract rfl rfl) ?_
        refine WR_val rfl (rn_assign) ?_
        refine WR_val rfl (rn_assign) ?_
        refine WR_nil ?_
        refine thenN ?_
        refine W_seq ?_
        refine W_region ?_
        refine WR_val rfl (rn_move) ?_
        refine WR_val rfl (rn_move) ?_
        refine WR_val rfl (rn_move) ?_
        refine WR_ent rfl (rn_call (by kernel_rfl) rfl) (divC a x s _ L wr hab hxb (by omega) rfl hL) ?_
        rintro _ w56 ⟨rfl, hb56⟩
        replace hrs := hrs.new hb56
        replace hhp := hhp.new hb56
        replace hB := hB.acc hb56
        refine WR_val rfl (rn_move) ?_
        refine WR_val rfl (rn_extract rfl rfl) ?_
        refine WR_val rfl (rn_extract rfl rfl) ?_
        refine WR_val rfl (rn_assign) ?_
        refine WR_val rfl (rn_assign) ?_
        refine WR_nil ?_
        refine thenN ?_
        refine W_seq ?_
        refine W_region ?_
        refine WR_val rfl (rn_move) ?_
        refine WR_val rfl (rn_move) ?_
        refine WR_val rfl (rn_move) ?_
        refine WR_val rfl (rn_conv (k := .i64) (by kernel_rfl) (by kernel_rfl) rfl (Coup.w64 (by omega))) ?_
        refine WR_val rfl (rn_indexSl1 (e := 2) (by kernel_rfl) rfl rfl (i) (by omega) (by omega)) ?_
        refine WR_sk rfl (sk_store1 rfl rfl rfl rfl hrs (by kernel_rfl) (by first | (simp only [List.length_replicate]; omega) | (simp only [iv_length]; omega) | simp) (fun w901 hrs ho901 => ?_))
        replace hhp := hhp.only ho901 (by omega)
        replace hB := ho901.below hB ge_hB_g33
        replace hrs : row w901 g33 ((iv (shp a s ws i)).set (0 + i) (.int .i64 (a * x / s))) 2 := hrs
        rw [Nat.zero_add, iv_set, shp_set hx] at hrs
        have hsl2 := shp_len a s ws (i := i + 1) (by omega)
        refine WR_nil ?_
        refine thenN ?_
        refine W_seq ?_
        refine W_region ?_
        refine WR_val rfl (rn_move) ?_
        refine WR_val rfl (rn_move) ?_
        refine WR_val rfl (rn_move) ?_
        refine WR_val rfl (rn_indexSl1 (e := 2) (by kernel_rfl) rfl rfl (i) (by omega) (by omega)) ?_
        refine WR_val rfl (rn_load rfl (Ld.row1' hrs (by kernel_rfl) i (by omega) (iv_some ((gi_get (by omega)).trans (congrArg some (shp_get hx)))))) ?_
        refine WR_val rfl (rn_sub rfl rfl (Coup.w64 (by omega))) ?_
        refine WR_val rfl (rn_assign) ?_
        refine WR_nil ?_
        refine thenN ?_
        refine W_region ?_
        refine WR_val rfl (rn_move) ?_
        refine WR_val rfl (rn_iface (by kernel_rfl)) ?_
        refine WR_val rfl (rn_move) ?_
        refine WR_val rfl (rn_move) ?_
        refine WR_val rfl (rn_pair (k0 := .u64) (k1 := .i64) (by kernel_rfl) (by kernel_rfl) rfl rfl) ?_
        refine WR_val rfl (rn_iface (by kernel_rfl)) ?_
        refine WR_ent rfl (rn_call (by kernel_rfl) rfl) (heapPush H g35 (g33 + 1) L i w901 hhp hhb (by omega)) ?_
        rintro _ w76 ⟨H', hhp', hpm', hhb', hb76⟩
        refine WR_nil ?_
        refine blockN ?_
        refine thenN ?_
        refine W_region ?_
        refine WR_val rfl (rn_add rfl rfl (Coup.w64 (by omega))) ?_
        refine WR_val rfl (rn_move) ?_
        refine WR_nil ?_
        have hrs := hrs.below hb76 (by omega)
        have hB := hB.trans (hb76.mono hw33)
        refine loopN ⟨(i + 1, H'), by simp only; omega, ⟨rfl, rfl, rfl, vi ?_, rfl, rfl, rfl, rfl, rfl⟩, by simp only; omega, hrs, hhp', hhb', ?_, hB⟩
        · rw [take_snoc hx, sharesOf_snoc, sumI_snoc]; omega
        · simp only
          rw [take_snoc hx, lostOf_snoc, pairsF_snoc _ _ _ (by omega), lostOf_len, List.length_take, Nat.min_eq_left (by omega), Nat.zero_add, hL]
          exact hpm'.trans (hperm.append_right _)
      ·
        obtain rfl : i = n := by omega
        rw [List.take_of_length_le (by omega)] at *
        have hsL := left_bounds (a := a) (ws := ws) (by omega)
        rw [← hl, shp_end] at hrs
        obtain ⟨m0, hm0⟩ : ∃ m : Nat, leftOf a ws = (m : Int) := ⟨(leftOf a ws).toNat, by omega⟩
        have hD0 : bumps m0 (sharesOf a s ws) (lostOf a s ws) = dealS a ws := by rw [dealS, hm0, Int.toNat_natCast, hs]
        have hact := act_all (l := lostOf a s ws) fun x hx => (lost_bounds hsp ws x hx).1
        rw [lostOf_len] at hact
        have hleft : a - sumI (sharesOf a s ws) = (m0 : Int) := by rw [← hm0, leftOf, hs]
        refine W_exit ?_
        refine thenX ?_
        refine loopX ?_
        refine blockX ?_
        refine thenN ?_
        refine W_seq ?_
        refine W_seq ?_
        refine W_region ?_
        refine WR_val rfl (rn_move) ?_
        refine WR_val rfl (rn_makeFunc) ?_
        refine WR_val rfl (rn_assign) ?_
        refine WR_nil ?_
        refine thenN ?_
        refine W_block ?_
        refine W_loop (α := Nat × List Int × List Int × List LossT) (m0, sharesOf a s ws, lostOf a s ws, H) (fun k => [(10, .int .i64 (k.1 : Nat)), (8, .slice (some ⟨g33, 0, none⟩) i i), (17, .func (.func 31) #[.pointer (some ⟨g35, 0, none⟩)] #[])])
          (fun k w' => row w' g33 (iv k.2.1) 2 ∧ HpAt w' (g33 + 1) g35 k.2.2.2 ∧ HeapB k.2.2.2 k.2.2.2.length ∧ k.2.2.2.Perm (pairsF 0 k.2.2.1) ∧ k.2.1.length = i ∧ k.2.2.1.length = i ∧ (∀ j, j < i → -1 ≤ gi k.2.2.1 j) ∧ k.1 ≤ act k.2.2.1 ∧ bumps k.1 k.2.1 k.2.2.1 = dealS a ws ∧ (∀ j, j < i → 0 ≤ gi k.2.1 j ∧ gi k.2.1 j ≤ 1000000000100 - k.1) ∧ Below w.heap.size w w') (fun k => k.1)
          ⟨vi hleft, rfl, rfl, rfl⟩ ⟨hrs, hhp, hhb, hperm, by simp only [sharesOf_len]; omega, by simp only [lostOf_len]; omega, fun j hj => ?_, by simp only; omega, hD0, fun j hj => ?_, hB⟩ ?_
        · have := lost_bounds (a := a) hsp ws _ (gi_mem (l := lostOf a s ws) (i := j) (by rw [lostOf_len]; omega))
          simp only; omega
        · have := hshb _ (gi_mem (l := sharesOf a s ws) (i := j) (by rw [sharesOf_len]; omega))
          simp only; omega
        clear hrs hhp hhb hperm hact hD0 hleft hm0 hsL hq1 hq2 hq3 hshb hHl hsl hB
        rintro ⟨m, sh, lo, H1⟩ f2 wz ⟨hrs, hhp, hhb, hperm, hshl, hlol, hge, hact, hD, hshb, hB⟩
        simp only at hrs hhp hhb hperm hshl hlol hge hact hD hshb
        dsimp only
        refine W_seq ?_
        refine W_seq ?_
        refine W_region ?_
        refine WR_val rfl (rn_move) ?_
        refine WR_val rfl (rn_gtr rfl rfl) ?_
        refine WR_nil ?_
        refine thenN ?_
        refine W_ifp rfl (fun hlt => ?_) (fun hlt => ?_)
        ·
          refine W_skip ?_
          refine thenN ?_
          refine W_seq ?_
          refine W_block ?_
          have hH0 := act_pos hperm (by omega)
          have hobt := heap_first hperm hhb hH0
          obtain ⟨hj1, hj2, hj3, hj4⟩ := hobt
          have hpl := pairsF_len lo 0
          have hHl := hperm.length_eq
          have hobt : ∃ n', H1.length = n' + 1 := ⟨H1.length - 1, by omega⟩
          obtain ⟨n', hn'⟩ := hobt
          have hsj := hshb (amax lo) (by omega)
          refine W_region ?_
          refine WR_val rfl (rn_move) ?_
          refine WR_val rfl (rn_move) ?_
          refine WR_ent rfl (rn_callf (by kernel_rfl) rfl rfl) (next31 H1 g35 (g33 + 1) n' wz hhp hhb hn' (by omega)) ?_
          rintro _ w86 ⟨rfl, H', hhp', hpm', hhb', hb86⟩
          have hrs := hrs.below hb86 (by omega)
          have hB := hB.trans (hb86.mono hw33)
          refine WR_val rfl (rn_indexSl1 (e := 2) (by kernel_rfl) rfl rfl (amax lo) (by omega) (by omega)) ?_
          refine WR_val rfl (rn_load rfl (Ld.row1' hrs (by kernel_rfl) (amax lo) (by omega) (iv_some (gi_get (by omega))))) ?_
          refine WR_val rfl (rn_add rfl rfl (Coup.w64 (by omega))) ?_
          refine WR_val rfl (rn_indexSl1 (e := 2) (by kernel_rfl) rfl rfl (amax lo) (by omega) (by omega)) ?_
          refine WR_sk rfl (sk_store1 rfl rfl rfl rfl hrs (by kernel_rfl) (by first | (simp only [List.length_replicate]; omega) | (simp only [iv_length]; omega) | simp) (fun w902 hrs ho902 => ?_))
          replace hhp' := hhp'.only ho902 (by omega)
          replace hB := ho902.below hB ge_hB_g33
          replace hrs : row w902 g33 ((iv sh).set (0 + amax lo) (.int .i64 (gi sh (amax lo) + 1))) 2 := hrs
          rw [Nat.zero_add, iv_set] at hrs
          refine WR_nil ?_
          refine blockN ?_
          refine thenN ?_
          refine W_region ?_
          refine WR_val rfl (rn_move) ?_
          refine WR_val rfl (rn_sub rfl rfl (Coup.w64 (by omega))) ?_
          refine WR_val rfl (rn_assign) ?_
          refine WR_nil ?_
          obtain ⟨m', rfl⟩ : ∃ m', m = m' + 1 := ⟨m - 1, by omega⟩
          have ha2 := act_set hj1 hj2
          refine loopN ⟨(m', sh.set (amax lo) (gi sh (amax lo) + 1), lo.set (amax lo) (-1), H'), by simp only; omega, ⟨vi (by omega), rfl, rfl, rfl⟩, hrs, hhp', hhb', hj4 H' hpm', by simp only [List.length_set]; exact hshl, by simp only [List.length_set]; exact hlol, fun j hj => ?_, by simp only; omega, hD, fun j hj => ?_, hB⟩
          · simp only
            rw [gi_set hj1]
            have := hge j hj
            split <;> omega
          · simp only
            rw [gi_set (by omega)]
            have := hshb j hj
            split <;> omega
        ·
          obtain rfl : m = 0 := by omega
          refine W_exit ?_
          refine thenX ?_
          refine loopX ?_
          refine blockX ?_
          refine thenN ?_
          refine W_seq ?_
          refine W_region ?_
          refine WR_val rfl (rn_move) ?_
          refine WR_val rfl (rn_assign) ?_
          refine WR_val rfl (rn_assign) ?_
          refine WR_nil ?_
          refine thenN ?_
          refine W_ret ?_
          refine ret_ret [_, _] ⟨rfl, rfl, trivial⟩ ?_
          refine ⟨hB, Or.inr ⟨hE, g33, rfl, by omega, ?_⟩⟩
          rw [← hD]
          exact hrs
end Go.Proofs.Ytknjiohhlemeiaa
