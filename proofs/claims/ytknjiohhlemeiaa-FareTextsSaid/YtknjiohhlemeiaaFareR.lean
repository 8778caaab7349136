/- What every law of the chapter asks: the chapter's rows. -/
import Derived.Test.YtknjiohhlemeiaaFareQ
namespace Go.Proofs.Ytknjiohhlemeiaa
open Go Go.RowKit Coup

theorem dealYes (a : Int) (p : Option Addr) (n c : Nat) (ws D : List Int) (w : World) (h : SlAt w p n 1 (iv ws)) (hok : okI ws) (hai : -9223372036854775808 ≤ a ∧ a ≤ 9223372036854775807) (hE : dealE a ws = 0) (hD : dealS a ws = D) :
    Calls Try.prog 11 [.int .i64 a, .slice p n c].toArray w (Ret fun v w' => ∃ g, v = .tuple #[.slice (some ⟨g, 0, none⟩) n n, .int .i64 0] ∧ w.heap.size ≤ g ∧ row w' g (iv D) 2 ∧ Below w.heap.size w w') :=
  (deal11 a p n c ws w h hok hai).to fun v w' ⟨hb, hv⟩ => by
    rcases hv with ⟨h1, _⟩ | ⟨_, g, h2, h3, h4⟩
    · exact absurd hE h1
    · exact ⟨g, h2, h3, hD ▸ h4, hb⟩
theorem dealNo (a : Int) (p : Option Addr) (n c : Nat) (ws : List Int) (w : World) (h : SlAt w p n 1 (iv ws)) (hok : okI ws) (hai : -9223372036854775808 ≤ a ∧ a ≤ 9223372036854775807) (hE : dealE a ws ≠ 0) :
    Calls Try.prog 11 [.int .i64 a, .slice p n c].toArray w (Ret fun v w' => v = .tuple #[.slice none 0 0, .int .i64 (dealE a ws)] ∧ Below w.heap.size w w') :=
  (deal11 a p n c ws w h hok hai).to fun v w' ⟨hb, hv⟩ => by
    rcases hv with ⟨_, h1⟩ | ⟨h1, _⟩
    · exact ⟨h1, hb⟩
    · exact absurd h1 hE
theorem kn1 : dealE 100 [1, 1, 1] = 0 ∧ dealS 100 [1, 1, 1] = [34, 33, 33] := by decide +kernel
theorem kn2 : dealE 10 [3, 3, 1] = 0 ∧ dealS 10 [3, 3, 1] = [4, 4, 2] := by decide +kernel
theorem kn3 : ofS [49, 50, 46, 53, 48] = (1250, 0) := by decide +kernel
theorem kn4 : textS (-705) = [45, 55, 46, 48, 53] := by decide +kernel
theorem rateK (w : World) : Calls Try.prog 18 [.int .i64 999, .int .i64 333].toArray w (Ret fun v w' => v = .tuple #[.int .i64 33, .int .i64 0] ∧ w = w') := rate18 999 333 w
theorem takeK (w : World) : Calls Try.prog 19 [.int .i64 5, .int .i64 7].toArray w (Ret fun v w' => v = .tuple #[.int .i64 5, .int .i64 0, .int .i64 0] ∧ w = w') := take19 5 7 w
theorem ofK (w : World) : Calls Try.prog 21 [strOf [49, 50, 46, 53, 48]].toArray w (Ret fun v w' => v = .tuple #[.int .i64 1250, .int .i64 0] ∧ Below w.heap.size w w') := by
  have := of21 [49, 50, 46, 53, 48] w (by decide)
  rwa [kn3] at this
theorem textK (w : World) : Calls Try.prog 20 [.int .i64 (-705)].toArray w (Ret fun v w' => v = strOf [45, 55, 46, 48, 53] ∧ Below w.heap.size w w') := by
  have := text20 (-705) w (by omega)
  rwa [kn4] at this
set_option maxHeartbeats 1000000 in
theorem known10 (w : World) : Calls Try.prog 10 [].toArray w (Ret fun v w' => v = .bool true ∧ Below w.heap.size w w') := by
  have hB := Below.refl w.heap.size w
  have hml : maxLen = 9223372036854775807 := by decide
  refine calls_W (fn := Try.f10) (rs := [.tmp 0]) (n := 83) Try.func10 rfl rfl Try.ntmps10 (by kernel_rfl) rfl ?_
  refine W_seq ?_
  refine W_region ?_
  refine WR_val rfl (rn_assign) ?_
  refine WR_nil ?_
  refine thenN ?_
  refine W_seq ?_
  refine W_region ?_
  refine WR_mk rfl (mk_ints3 (e := 2) (a := 1) (b := 1) (c := 1) [.int .i64 0] (by kernel_rfl) (by kernel_rfl) rfl rfl rfl (fun g13 w13 hg13 hr13 hb13 => ?_))
  have ge_hB_g13 := Nat.le_trans hB.size hg13
  replace hB := hB.acc hb13
  have hs13 := hr13.slA (m := 3) (sz := 1) rfl (by omega)
  refine WR_ent rfl (rn_call (by kernel_rfl) rfl) (dealYes 100 _ 3 3 [1, 1, 1] _ w13 hs13 (by unfold okI; simp) (by omega) kn1.1 kn1.2) ?_
  rintro _ w14 ⟨ga, rfl, hga, hra, hb14⟩
  have ge_hB_ga := Nat.le_trans hB.size hga
  replace hB := hB.acc hb14
  refine WR_val rfl (rn_move) ?_
  refine WR_val rfl (rn_extract rfl rfl) ?_
  refine WR_val rfl (rn_extract rfl rfl) ?_
  refine WR_val rfl (rn_assign) ?_
  refine WR_val rfl (rn_assign) ?_
  refine WR_nil ?_
  refine thenN ?_
  refine W_seq ?_
  refine W_region ?_
  refine WR_mk rfl (mk_ints3 (e := 2) (a := 3) (b := 3) (c := 1) [.int .i64 0] (by kernel_rfl) (by kernel_rfl) rfl rfl rfl (fun g18 w18 hg18 hr18 hb18 => ?_))
  have ge_hB_g18 := Nat.le_trans hB.size hg18
  have lt_ga_g18 : ga < g18 := Nat.lt_of_lt_of_le hra.lt hg18
  replace hra := hra.new hb18
  replace hB := hB.acc hb18
  have hs18 := hr18.slA (m := 3) (sz := 1) rfl (by omega)
  refine WR_ent rfl (rn_call (by kernel_rfl) rfl) (dealYes 10 _ 3 3 [3, 3, 1] _ w18 hs18 (by unfold okI; simp) (by omega) kn2.1 kn2.2) ?_
  rintro _ w19 ⟨gb, rfl, hgb, hrb, hb19⟩
  have ge_hB_gb := Nat.le_trans hB.size hgb
  have lt_ga_gb : ga < gb := Nat.lt_of_lt_of_le hra.lt hgb
  replace hra := hra.new hb19
  replace hB := hB.acc hb19
  refine WR_val rfl (rn_move) ?_
  refine WR_val rfl (rn_extract rfl rfl) ?_
  refine WR_val rfl (rn_extract rfl rfl) ?_
  refine WR_val rfl (rn_assign) ?_
  refine WR_val rfl (rn_assign) ?_
  refine WR_nil ?_
  refine thenN ?_
  refine W_seq ?_
  refine W_region ?_
  refine WR_ent rfl (rn_call (by kernel_rfl) rfl) (rateK w19) ?_
  rintro _ _ ⟨rfl, rfl⟩
  refine WR_val rfl (rn_move) ?_
  refine WR_val rfl (rn_extract rfl rfl) ?_
  refine WR_val rfl (rn_extract rfl rfl) ?_
  refine WR_val rfl (rn_assign) ?_
  refine WR_val rfl (rn_assign) ?_
  refine WR_nil ?_
  refine thenN ?_
  refine W_seq ?_
  refine W_region ?_
  refine WR_ent rfl (rn_call (by kernel_rfl) rfl) (takeK w19) ?_
  rintro _ _ ⟨rfl, rfl⟩
  refine WR_val rfl (rn_move) ?_
  refine WR_val rfl (rn_extract rfl rfl) ?_
  refine WR_val rfl (rn_extract rfl rfl) ?_
  refine WR_val rfl (rn_extract rfl rfl) ?_
  refine WR_val rfl (rn_assign) ?_
  refine WR_val rfl (rn_assign) ?_
  refine WR_val rfl (rn_assign) ?_
  refine WR_nil ?_
  refine thenN ?_
  refine W_seq ?_
  refine W_region ?_
  refine WR_ent rfl (rn_call (by kernel_rfl) rfl) (ofK w19) ?_
  rintro _ w32 ⟨rfl, hb32⟩
  replace hra := hra.new hb32
  replace hrb := hrb.new hb32
  replace hB := hB.acc hb32
  refine WR_val rfl (rn_move) ?_
  refine WR_val rfl (rn_extract rfl rfl) ?_
  refine WR_val rfl (rn_extract rfl rfl) ?_
  refine WR_val rfl (rn_assign) ?_
  refine WR_val rfl (rn_assign) ?_
  refine WR_nil ?_
  refine thenN ?_
  refine W_seq ?_
  refine W_region ?_
  refine WR_val rfl (rn_move) ?_
  refine WR_val rfl (rn_eql rfl rfl) ?_
  refine WR_val rfl (rn_move) ?_
  refine WR_tp 37 rfl ((by decide)) ?_
  refine WR_yes rfl ?_
  refine WR_val rfl (rn_move) ?_
  refine WR_yes rfl ?_
  refine WR_val rfl (rn_eql rfl rfl) ?_
  refine WR_val rfl (rn_pick_t rfl) ?_
  refine WR_val rfl (rn_move) ?_
  refine WR_tp 41 rfl ((by decide)) ?_
  refine WR_yes rfl ?_
  refine WR_val rfl (rn_move) ?_
  refine WR_yes rfl ?_
  refine WR_val rfl (rn_eql rfl rfl) ?_
  refine WR_val rfl (rn_pick_t rfl) ?_
  refine WR_val rfl (rn_move) ?_
  refine WR_tp 45 rfl ((by decide)) ?_
  refine WR_yes rfl ?_
  refine WR_val rfl (rn_move) ?_
  refine WR_yes rfl ?_
  refine WR_val rfl (rn_eql rfl rfl) ?_
  refine WR_val rfl (rn_pick_t rfl) ?_
  refine WR_val rfl (rn_move) ?_
  refine WR_tp 49 rfl ((by decide)) ?_
  refine WR_yes rfl ?_
  refine WR_val rfl (rn_move) ?_
  refine WR_yes rfl ?_
  refine WR_val rfl (rn_eql rfl rfl) ?_
  refine WR_val rfl (rn_pick_t rfl) ?_
  refine WR_val rfl (rn_move) ?_
  refine WR_tp 53 rfl ((by decide)) ?_
  refine WR_yes rfl ?_
  refine WR_val rfl (rn_move) ?_
  refine WR_yes rfl ?_
  refine WR_mk rfl (mk_ints3 (e := 2) (a := 34) (b := 33) (c := 33) [.int .i64 0] (by kernel_rfl) (by kernel_rfl) rfl rfl rfl (fun g55 w55 hg55 hr55 hb55 => ?_))
  have ge_hB_g55 := Nat.le_trans hB.size hg55
  have lt_ga_g55 : ga < g55 := Nat.lt_of_lt_of_le hra.lt hg55
  have lt_gb_g55 : gb < g55 := Nat.lt_of_lt_of_le hrb.lt hg55
  replace hra := hra.new hb55
  replace hrb := hrb.new hb55
  replace hB := hB.acc hb55
  refine WR_yes rfl ?_
  refine WR_ent rfl (rn_call (by kernel_rfl) rfl) (same14 _ 3 3 [34, 33, 33] _ 3 3 [34, 33, 33] w55 (hra.slA (m := 3) (sz := 1) rfl (by omega)) (hr55.slA (m := 3) (sz := 1) rfl (by omega))) ?_
  rintro _ w56 ⟨rfl, hb56⟩
  replace hra := hra.new hb56
  replace hrb := hrb.new hb56
  replace hr55 := hr55.new hb56
  replace hB := hB.acc hb56
  refine WR_val rfl (rn_pick_t rfl) ?_
  refine WR_val rfl (rn_move) ?_
  refine WR_tb 58 rfl ((by decide)) ?_
  refine WR_yes rfl ?_
  refine WR_val rfl (rn_move) ?_
  refine WR_yes rfl ?_
  refine WR_mk rfl (mk_ints3 (e := 2) (a := 4) (b := 4) (c := 2) [.int .i64 0] (by kernel_rfl) (by kernel_rfl) rfl rfl rfl (fun g60 w60 hg60 hr60 hb60 => ?_))
  have ge_hB_g60 := Nat.le_trans hB.size hg60
  have lt_ga_g60 : ga < g60 := Nat.lt_of_lt_of_le hra.lt hg60
  have lt_gb_g60 : gb < g60 := Nat.lt_of_lt_of_le hrb.lt hg60
  have lt_g55_g60 : g55 < g60 := Nat.lt_of_lt_of_le hr55.lt hg60
  replace hra := hra.new hb60
  replace hrb := hrb.new hb60
  replace hr55 := hr55.new hb60
  replace hB := hB.acc hb60
  refine WR_yes rfl ?_
  refine WR_ent rfl (rn_call (by kernel_rfl) rfl) (same14 _ 3 3 [4, 4, 2] _ 3 3 [4, 4, 2] w60 (hrb.slA (m := 3) (sz := 1) rfl (by omega)) (hr60.slA (m := 3) (sz := 1) rfl (by omega))) ?_
  rintro _ w61 ⟨rfl, hb61⟩
  replace hra := hra.new hb61
  replace hrb := hrb.new hb61
  replace hr55 := hr55.new hb61
  replace hr60 := hr60.new hb61
  replace hB := hB.acc hb61
  refine WR_val rfl (rn_pick_t rfl) ?_
  refine WR_val rfl (rn_move) ?_
  refine WR_tb 63 rfl ((by decide)) ?_
  refine WR_yes rfl ?_
  refine WR_val rfl (rn_move) ?_
  refine WR_yes rfl ?_
  refine WR_val rfl (rn_eql rfl rfl) ?_
  refine WR_val rfl (rn_pick_t rfl) ?_
  refine WR_val rfl (rn_move) ?_
  refine WR_tp 67 rfl ((by decide)) ?_
  refine WR_yes rfl ?_
  refine WR_val rfl (rn_move) ?_
  refine WR_yes rfl ?_
  refine WR_val rfl (rn_eql rfl rfl) ?_
  refine WR_val rfl (rn_pick_t rfl) ?_
  refine WR_val rfl (rn_move) ?_
  refine WR_tp 71 rfl ((by decide)) ?_
  refine WR_yes rfl ?_
  refine WR_val rfl (rn_move) ?_
  refine WR_yes rfl ?_
  refine WR_val rfl (rn_eql rfl rfl) ?_
  refine WR_val rfl (rn_pick_t rfl) ?_
  refine WR_val rfl (rn_move) ?_
  refine WR_tp 75 rfl ((by decide)) ?_
  refine WR_yes rfl ?_
  refine WR_ent rfl (rn_call (by kernel_rfl) rfl) (textK w61) ?_
  rintro _ w76 ⟨rfl, hb76⟩
  replace hra := hra.new hb76
  replace hrb := hrb.new hb76
  replace hr55 := hr55.new hb76
  replace hr60 := hr60.new hb76
  replace hB := hB.acc hb76
  refine WR_yes rfl ?_
  refine WR_val rfl (rn_eqlS (a := [45, 55, 46, 48, 53]) (b := [45, 55, 46, 48, 53]) rfl rfl) ?_
  refine WR_val rfl (rn_pick_t rfl) ?_
  refine WR_val rfl (rn_move) ?_
  refine WR_tb 79 rfl ((by decide)) ?_
  refine WR_yes rfl ?_
  refine WR_val rfl (rn_move) ?_
  refine WR_yes rfl ?_
  refine WR_val rfl (rn_eql rfl rfl) ?_
  refine WR_val rfl (rn_pick_t rfl) ?_
  refine WR_val rfl (rn_assign) ?_
  refine WR_nil ?_
  refine thenN ?_
  refine W_ret ?_
  refine ret_ret [_] ⟨rfl, trivial⟩ ?_
  exact ⟨rfl, hB⟩
end Go.Proofs.Ytknjiohhlemeiaa
