/- Heaps of what was lost, in memory: pushed into, popped, by Go's own way. -/
import Derived.Test.YtknjiohhlemeiaaFareG
namespace Go.Proofs.Ytknjiohhlemeiaa
open Go Go.RowKit Coup

/-- A heap behind a pointer: its list's own block lies above B, apart from the pointer's. -/
def HpAt (w : World) (B gl : Nat) (H : List LossT) : Prop := B ≤ gl ∧ ∃ p c, row w gl [.slice p H.length c] 54 ∧ ownsAt w B 60 2 (.slice p H.length c) H.length (lc H) ∧ (Value.slice p H.length c).ownBlock ≠ some gl
theorem HpAt.new {w w' : World} {B gl : Nat} {H : List LossT} (h : HpAt w B gl H) (hb : Below w.heap.size w w') : HpAt w' B gl H := by
  obtain ⟨h0, p, c, h1, h2, h3⟩ := h
  exact ⟨h0, p, c, h1.new hb, h2.new hb, h3⟩
theorem HpAt.only {w w' : World} {B gl g : Nat} {H : List LossT} (h : HpAt w B gl H) (ho : Only g w w') (hg : g < B) : HpAt w' B gl H := by
  obtain ⟨h0, p, c, h1, h2, h3⟩ := h
  exact ⟨h0, p, c, h1.only ho (by omega), h2.only ho hg, h3⟩
abbrev ifL (gl : Nat) : Value := .iface 52 (.pointer (some ⟨gl, 0, none⟩))
theorem m_len : methV Try.prog 52 "Len" 72 54 := methV_of (by kernel_rfl) (by kernel_rfl)
theorem m_less : methV Try.prog 52 "Less" 73 54 := methV_of (by kernel_rfl) (by kernel_rfl)
theorem m_swap : methV Try.prog 52 "Swap" 76 54 := methV_of (by kernel_rfl) (by kernel_rfl)
theorem m_push : methP Try.prog 52 "Push" 75 := fun a w => by kernel_rfl
theorem m_pop : methP Try.prog 52 "Pop" 74 := fun a w => by kernel_rfl
theorem push75 (H : List LossT) (gl B a b : Nat) (w : World) (h : HpAt w B gl H) (hn : H.length ≤ 1000) :
    Calls Try.prog 75 [.pointer (some ⟨gl, 0, none⟩), .iface 60 (.agg #[.int .u64 (a : Int), .int .i64 (b : Int)])].toArray w (Ret fun _ w' => HpAt w' B gl (H ++ [(a, b)]) ∧ Below B w w') := by
  obtain ⟨hBl, p, c, hr, hown, hne⟩ := h
  have hrl := hr.lt
  have hlt := hown.lt
  have hll := lc_len H
  have hml : maxLen = 9223372036854775807 := by decide
  refine calls_W (fn := Try.f75) (rs := []) (n := 13) Try.func75 rfl rfl Try.ntmps75 (by kernel_rfl) rfl ?_
  refine W_draw' (gl :: (Value.slice p H.length c).ownBlock.toList) (by kernel_rfl) ?_
  intro w901 hb901 hS901
  replace hr := hr.new hb901
  replace hown := hown.new hb901
  have hr_d901 := hr
  have hown_d901 := hown
  refine WA_take 0 (by kernel_rfl) rfl (fun _ _ => rn_move) ?_
  refine WA_take 1 (by kernel_rfl) rfl (fun _ _ => rn_move) ?_
  refine WA_take 2 (by kernel_rfl) rfl (fun _ _ => rn_nilCheckP rfl) ?_
  refine WA_take 4 (by kernel_rfl) rfl (fun _ _ => rn_move) ?_
  refine WA_take 5 (by kernel_rfl) rfl (fun _ _ => rn_assert (by kernel_rfl) rfl) ?_
  refine WA_two 3 6 (by kernel_rfl) ?_ ?_
  ·
    refine WO_val rfl rfl (rn_load rfl (Ld.row1 hr (by kernel_rfl) rfl)) hS901 ?_
    refine WA_one 6 (by kernel_rfl) ?_
    refine WO_mk rfl rfl (mk_one (e := 60) (.agg #[.int .u64 (a : Int), .int .i64 (b : Int)]) ([.int .u64 (a : Int), .int .i64 (b : Int)]) ([Value.int .u64 0, Value.int .i64 0]) 2 (by kernel_rfl) (by kernel_rfl) rfl rfl (by first | rfl | (simp; done) | (simp [bv_length, *]; done)) ⟨by decide, by decide⟩ (fun g10 w10 hg10 hr10 hb10 => ?_))
    have hS903 := hS901.add0 hb10
    refine ⟨hS903, ?_⟩
    have ge_hS901_g10 := Nat.le_trans hS901.size hg10
    have lt_gl_g10 : gl < g10 := Nat.lt_of_lt_of_le hr.lt hg10
    replace hr := hr.new hb10
    replace hown := hown.new hb10
    refine WA_one 7 (by kernel_rfl) ?_
    have hs10 := hr10.slA (m := 1) (sz := 2) rfl (by unfold maxLen; omega)
    have hq11 := hr.lt
    refine WO_mk rfl rfl (mk_append (e := 60) (sz := 2) (bytes := 16) (z := .agg ([Value.int .u64 0, Value.int .i64 0]).toArray) (by kernel_rfl) rfl (by kernel_rfl) rfl (by decide) rfl hown rfl hs10 (by simp [Value.oneCell']) (by unfold maxLen; omega) (by omega) (fun hm0 => by omega) (fun v11 w11 hv11 hgr11 hfr11 => ?_))
    have hS904 := hS903.ownS hown hgr11 (by first | (left; omega) | exact Or.inr (fun _ h => h) | exact Or.inr (fun _ h => List.mem_cons_of_mem _ h))
    refine ⟨hS904, ?_⟩
    have hr := hr.kpd (Kp.of_grown hgr11) (fun hm => hne (Option.mem_toList.1 hm))
    have hne11 : v11.ownBlock ≠ some gl := fun e => (hfr11 gl e).elim hne (fun e' => by omega)
    obtain ⟨p11, c11, rfl⟩ := hv11.form
    refine WA_take 8 (by kernel_rfl) rfl (fun _ _ => rn_nilCheckP rfl) ?_
    refine WA_one 9 (by kernel_rfl) ?_
    refine WO_sk rfl rfl (sk_store1 rfl rfl rfl rfl hr (by kernel_rfl) (by first | (simp only [List.length_replicate]; omega) | (simp only [iv_length]; omega) | simp) (fun w906 hr ho906 => ?_))
    have hS905 := hS904.add1 ho906 (by first | (left; omega) | (right; simp; done) | (right; simp; omega))
    refine ⟨hS905, ?_⟩
    refine WA_done (by kernel_rfl) ?_
    refine ret_normal [] trivial ?_
    refine ⟨⟨hBl, p11, c11, ?_, ?_, ?_⟩, (Kp.of_below hb901).trans (by assumption) |>.toB ?_ (by omega)⟩
    · rw [List.length_append]; exact hr
    · rw [lc_append, List.length_append]; exact hv11.kpd (Kp.of_only (by assumption)) (by simpa using hne11)
    · simpa using hne11
    · intro g hm
      simp only [List.mem_cons, Option.mem_toList] at hm
      rcases hm with rfl | hm
      · exact hBl
      · exact (hlt g hm).1
  ·
    refine WO_mk rfl rfl (mk_one (e := 60) (.agg #[.int .u64 (a : Int), .int .i64 (b : Int)]) ([.int .u64 (a : Int), .int .i64 (b : Int)]) ([Value.int .u64 0, Value.int .i64 0]) 2 (by kernel_rfl) (by kernel_rfl) rfl rfl (by first | rfl | (simp; done) | (simp [bv_length, *]; done)) ⟨by decide, by decide⟩ (fun g10 w10 hg10 hr10 hb10 => ?_))
    have hS907 := hS901.add0 hb10
    refine ⟨hS907, ?_⟩
    have ge_hS901_g10 := Nat.le_trans hS901.size hg10
    have lt_gl_g10 : gl < g10 := Nat.lt_of_lt_of_le hr.lt hg10
    replace hr := hr.new hb10
    replace hown := hown.new hb10
    refine WA_one 3 (by kernel_rfl) ?_
    refine WO_val rfl rfl (rn_load rfl (Ld.row1 hr (by kernel_rfl) rfl)) hS907 ?_
    refine WA_one 7 (by kernel_rfl) ?_
    have hs10 := hr10.slA (m := 1) (sz := 2) rfl (by unfold maxLen; omega)
    have hq11 := hr.lt
    refine WO_mk rfl rfl (mk_append (e := 60) (sz := 2) (bytes := 16) (z := .agg ([Value.int .u64 0, Value.int .i64 0]).toArray) (by kernel_rfl) rfl (by kernel_rfl) rfl (by decide) rfl hown rfl hs10 (by simp [Value.oneCell']) (by unfold maxLen; omega) (by omega) (fun hm0 => by omega) (fun v11 w11 hv11 hgr11 hfr11 => ?_))
    have hS909 := hS907.ownS hown hgr11 (by first | (left; omega) | exact Or.inr (fun _ h => h) | exact Or.inr (fun _ h => List.mem_cons_of_mem _ h))
    refine ⟨hS909, ?_⟩
    have hr := hr.kpd (Kp.of_grown hgr11) (fun hm => hne (Option.mem_toList.1 hm))
    have hne11 : v11.ownBlock ≠ some gl := fun e => (hfr11 gl e).elim hne (fun e' => by omega)
    obtain ⟨p11, c11, rfl⟩ := hv11.form
    refine WA_take 8 (by kernel_rfl) rfl (fun _ _ => rn_nilCheckP rfl) ?_
    refine WA_one 9 (by kernel_rfl) ?_
    refine WO_sk rfl rfl (sk_store1 rfl rfl rfl rfl hr (by kernel_rfl) (by first | (simp only [List.length_replicate]; omega) | (simp only [iv_length]; omega) | simp) (fun w911 hr ho911 => ?_))
    have hS910 := hS909.add1 ho911 (by first | (left; omega) | (right; simp; done) | (right; simp; omega))
    refine ⟨hS910, ?_⟩
    refine WA_done (by kernel_rfl) ?_
    refine ret_normal [] trivial ?_
    refine ⟨⟨hBl, p11, c11, ?_, ?_, ?_⟩, (Kp.of_below hb901).trans (by assumption) |>.toB ?_ (by omega)⟩
    · rw [List.length_append]; exact hr
    · rw [lc_append, List.length_append]; exact hv11.kpd (Kp.of_only (by assumption)) (by simpa using hne11)
    · simpa using hne11
    · intro g hm
      simp only [List.mem_cons, Option.mem_toList] at hm
      rcases hm with rfl | hm
      · exact hBl
      · exact (hlt g hm).1

theorem lc_take : ∀ (H : List LossT) (n : Nat), (lc H).take (n * 2) = lc (H.take n)
  | [], n => by simp [lc]
  | x :: H, 0 => rfl
  | x :: H, n + 1 => by
    rw [show (n + 1) * 2 = n * 2 + 1 + 1 by omega]
    simp only [lc, List.take_succ_cons, lc_take H n]
theorem pop74 (H : List LossT) (gl B n : Nat) (w : World) (h : HpAt w B gl H) (hn : H.length = n + 1) (hmx : n ≤ 1000) :
    Calls Try.prog 74 [.pointer (some ⟨gl, 0, none⟩)].toArray w (Ret fun v w' => v = .iface 60 (.agg #[.int .u64 ((at0 H n).1 : Int), .int .i64 ((at0 H n).2 : Int)]) ∧ HpAt w' B gl (H.take n) ∧ Below B w w') := by
  obtain ⟨hBl, p, c, hr, hown, hne⟩ := h
  have hrl := hr.lt
  have hlt := hown.lt
  have hll := lc_len H
  rw [hn] at hr hown hne
  have hBB : BelB B w w := BelB.refl (by omega)
  obtain ⟨g, o, c', he, hg1, hg2, hc⟩ := hown.form' (by omega)
  cases he
  have hne2 : g ≠ gl := fun e => hne (by simp [Value.ownBlock, e])
  have hown : OwnG w B 60 2 g o (n + 1) c (lc H) := hown
  refine calls_W (fn := Try.f74) (rs := [.tmp 2]) (n := 25) Try.func74 rfl rfl Try.ntmps74 (by kernel_rfl) rfl ?_
  refine W_seq ?_
  refine W_region ?_
  refine WR_val rfl (rn_assign) ?_
  refine WR_nil ?_
  refine thenN ?_
  refine W_seq ?_
  refine W_region ?_
  refine WR_val rfl (rn_move) ?_
  refine WR_val rfl (rn_nilCheckP rfl) ?_
  refine WR_val rfl (rn_load rfl (Ld.row1 hr (by kernel_rfl) rfl)) ?_
  refine WR_val rfl (rn_lenSl (e := 60) (sz := 2) (by kernel_rfl) rfl rfl) ?_
  refine WR_val rfl (rn_sub rfl rfl (Coup.w64 (by omega))) ?_
  refine WR_val rfl (rn_assign) ?_
  refine WR_nil ?_
  refine thenN ?_
  refine W_seq ?_
  refine W_region ?_
  refine WR_val rfl (rn_move) ?_
  refine WR_val rfl (rn_nilCheckP rfl) ?_
  refine WR_val rfl (rn_load rfl (Ld.row1 hr (by kernel_rfl) rfl)) ?_
  refine WR_val rfl (rn_move) ?_
  refine WR_val rfl (rn_indexSl (e := 60) (sz := 2) (by kernel_rfl) rfl rfl (n) (by omega) (by omega)) ?_
  refine WR_val rfl (rn_load rfl (ld_loss hown.sl (by omega))) ?_
  refine WR_mk rfl (mk_alloc ([Value.int .u64 0, Value.int .i64 0]) (by kernel_rfl) (fun g4 w4 hg4 hr4 hb4 => ?_))
  have ge_hBB_g4 := Nat.le_trans hBB.size hg4
  have lt_gl_g4 : gl < g4 := Nat.lt_of_lt_of_le hr.lt hg4
  have lt_g_g4 : g < g4 := Nat.lt_of_lt_of_le hown.lt hg4
  replace hr := hr.new hb4
  replace hown := hown.new hb4
  replace hBB := hBB.acc hb4
  refine WR_sk rfl (sk_storeA 2 ([.int .u64 ((at0 H n).1 : Int), .int .i64 ((at0 H n).2 : Int)]) rfl rfl hr4 (by kernel_rfl) (by first | assumption | (simp; done) | (simp [bv_length, *]; done)) (by first | (simp; done) | (simp [bv_length, *]; done) | rfl) (by first | exact bv_one _ | assumption | (simp [Value.oneCell']; done)) (fun w901 hr4 ho901 => ?_))
  replace hr := hr.only ho901 (Nat.ne_of_lt lt_gl_g4)
  replace hown := hown.only ho901 (Nat.ne_of_lt lt_g_g4)
  replace hBB := hBB.onlyB ho901 ge_hBB_g4
  refine WR_nil ?_
  refine thenN ?_
  refine W_seq ?_
  refine W_region ?_
  refine WR_val rfl (rn_move) ?_
  refine WR_val rfl (rn_move) ?_
  refine WR_val rfl (rn_nilCheckP rfl) ?_
  refine WR_val rfl (rn_load rfl (Ld.row1 hr (by kernel_rfl) rfl)) ?_
  refine WR_val rfl (rn_move) ?_
  refine WR_val rfl (rn_sliceUp (e := 60) (sz := 2) (n) (by kernel_rfl) rfl ⟨_, _, rfl, by omega⟩ (by omega)) ?_
  refine WR_val rfl (rn_nilCheckP rfl) ?_
  refine WR_sk rfl (sk_store1 rfl rfl rfl rfl hr (by kernel_rfl) (by first | (simp only [List.length_replicate]; omega) | (simp only [iv_length]; omega) | simp) (fun w902 hr ho902 => ?_))
  replace hown := hown.only ho902 (by omega)
  replace hr4 := hr4.only ho902 (Nat.ne_of_gt lt_gl_g4)
  replace hBB := hBB.onlyB ho902 (by omega)
  refine WR_nil ?_
  refine thenN ?_
  refine W_seq ?_
  refine W_region ?_
  refine WR_val rfl (rn_load rfl (Ld.rowA (k := 2) hr4 (by kernel_rfl) (by kernel_rfl) (by first | (simp; done) | (simp [bv_length, *]; done)))) ?_
  refine WR_val rfl (rn_iface (by kernel_rfl)) ?_
  refine WR_val rfl (rn_assign) ?_
  refine WR_nil ?_
  refine thenN ?_
  refine W_ret ?_
  refine ret_ret [_] ⟨rfl, trivial⟩ ?_
  refine ⟨rfl, ⟨hBl, some ⟨g, o, none⟩, c, ?_, ?_, ?_⟩, hBB.bel⟩
  · rw [List.length_take, hn, Nat.min_eq_left (by omega)]; exact hr
  · rw [List.length_take, hn, Nat.min_eq_left (by omega), ← lc_take]; exact ownsAt.cut hown n (by omega)
  · rw [List.length_take, hn, Nat.min_eq_left (by omega)]; exact hne
end Go.Proofs.Ytknjiohhlemeiaa
