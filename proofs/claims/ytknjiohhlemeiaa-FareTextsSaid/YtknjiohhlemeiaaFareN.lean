/- A builder of strings: a byte is written. -/
import Derived.Test.YtknjiohhlemeiaaFareM
import Derived.Test.YtknjiohhlemeiaaVm13
import Derived.Test.YtknjiohhlemeiaaFareS
namespace Go.Proofs.Ytknjiohhlemeiaa
open Go Go.RowKit Coup

abbrev bldT : Nat := 65
abbrev BldAt (w : World) (B b : Nat) (p : Value) (bs : List Value) : Prop := Lib.BuilderAt 65 5 B b p bs w
theorem copyFresh (B b : Nat) (bs : List Value) (w : World) (h : BldAt w B b (.pointer none) bs) :
    Calls Try.prog 42 [.pointer (some ⟨b, 0, none⟩)].toArray w (Ret fun _ w' => BldAt w' B b (.pointer (some ⟨b, 0, none⟩)) bs ∧ Below B w w') := by
  obtain ⟨hB, v, hb, hown, hne⟩ := h
  have hr : row w b [.pointer none, v] 65 := hb
  have hlt := hr.lt
  have hBB : BelB B w w := BelB.refl (by omega)
  refine calls_W (fn := Try.f42) (rs := []) (n := 20) Try.func42 rfl rfl Try.ntmps42 (by kernel_rfl) rfl ?_
  refine W_seq ?_
  refine W_region ?_
  refine WR_val rfl (rn_move) ?_
  refine WR_val rfl (rn_nilCheckP rfl) ?_
  refine WR_val rfl (rn_fieldAddr (off := 0) (by kernel_rfl) rfl) ?_
  refine WR_val rfl (rn_load rfl (Ld.row1 hr (by kernel_rfl) rfl)) ?_
  refine WR_val rfl (rn_eqlP0 (by kernel_rfl) rfl rfl) ?_
  refine WR_nil ?_
  refine thenN ?_
  refine W_t rfl ?_
  refine W_region ?_
  refine WR_val rfl (rn_move) ?_
  refine WR_val rfl (rn_move) ?_
  refine WR_val rfl (rn_cvPU (e := 65) (by kernel_rfl) hr (by simp) rfl) ?_
  refine WR_val rfl (rn_noEscape Try.func47 (by kernel_rfl) (by kernel_rfl) (by kernel_rfl) (by kernel_rfl) rfl) ?_
  refine WR_val rfl (rn_cvUP (e := 65) (by kernel_rfl) hr rfl) ?_
  refine WR_val rfl (rn_nilCheckP rfl) ?_
  refine WR_val rfl (rn_fieldAddr (off := 0) (by kernel_rfl) rfl) ?_
  refine WR_sk rfl (sk_store1 rfl rfl rfl rfl hr (by kernel_rfl) (by first | (simp only [List.length_replicate]; omega) | (simp only [iv_length]; omega) | simp) (fun w901 hr ho901 => ?_))
  replace hBB := hBB.onlyB ho901 (by omega)
  refine WR_nil ?_
  refine ret_normal [] trivial ?_
  exact ⟨⟨hB, v, hr, ownsRow_only hown (by assumption) hne, hne⟩, hBB.bel⟩
theorem copyUsed (B b : Nat) (bs : List Value) (w : World) (h : BldAt w B b (.pointer (some ⟨b, 0, none⟩)) bs) :
    Calls Try.prog 42 [.pointer (some ⟨b, 0, none⟩)].toArray w (Ret fun _ w' => BldAt w' B b (.pointer (some ⟨b, 0, none⟩)) bs ∧ Below B w w') := by
  obtain ⟨hB, v, hb, hown, hne⟩ := h
  have hr : row w b [.pointer (some ⟨b, 0, none⟩), v] 65 := hb
  refine calls_W (fn := Try.f42) (rs := []) (n := 20) Try.func42 rfl rfl Try.ntmps42 (by kernel_rfl) rfl ?_
  refine W_seq ?_
  refine W_region ?_
  refine WR_val rfl (rn_move) ?_
  refine WR_val rfl (rn_nilCheckP rfl) ?_
  refine WR_val rfl (rn_fieldAddr (off := 0) (by kernel_rfl) rfl) ?_
  refine WR_val rfl (rn_load rfl (Ld.row1 hr (by kernel_rfl) rfl)) ?_
  refine WR_val rfl (rn_eqlP1 (by kernel_rfl) rfl rfl) ?_
  refine WR_nil ?_
  refine thenN ?_
  refine W_f rfl ?_
  refine W_seq ?_
  refine W_region ?_
  refine WR_val rfl (rn_move) ?_
  refine WR_val rfl (rn_nilCheckP rfl) ?_
  refine WR_val rfl (rn_fieldAddr (off := 0) (by kernel_rfl) rfl) ?_
  refine WR_val rfl (rn_load rfl (Ld.row1 hr (by kernel_rfl) rfl)) ?_
  refine WR_val rfl (rn_move) ?_
  refine WR_val rfl (rn_neqPs (by kernel_rfl) rfl rfl) ?_
  refine WR_nil ?_
  refine thenN ?_
  refine W_f rfl ?_
  refine W_skip ?_
  refine ret_normal [] trivial ?_
  exact ⟨⟨hB, v, hr, hown, hne⟩, Below.refl _ _⟩
theorem copyCheck42 (B b : Nat) (bs : List Value) (w : World) (h : Lib.IsBuilder 65 5 B b bs w) :
    Calls Try.prog 42 [.pointer (some ⟨b, 0, none⟩)].toArray w (Ret fun _ w' => BldAt w' B b (.pointer (some ⟨b, 0, none⟩)) bs ∧ Below B w w') :=
  h.elim (copyFresh B b bs w) (copyUsed B b bs w)
theorem ownBlock_of {w : World} {B b m : Nat} {v p q : Value} {xs : List Value} (h : w.ownsRow B 5 1 v m xs) (hr : row w b [p, q] 65) : v.ownBlock ≠ some b := by
  rcases h.2 with ⟨rfl, _⟩ | ⟨g, cap, cur, rfl, hb, hg, _⟩
  · simp [Value.ownBlock]
  · intro e
    simp [Value.ownBlock] at e
    subst e
    unfold row at hr
    rw [hr] at hg
    simp at hg
theorem writeByte32 (B b : Nat) (bs : List Value) (c : Int) (w : World) (h : Lib.IsBuilder 65 5 B b bs w) (hn : bs.length ≤ 1000000) (hBw : B ≤ w.heap.size) :
    Calls Try.prog 32 [.pointer (some ⟨b, 0, none⟩), .int .u8 c].toArray w (Ret fun _ w' => BldAt w' B b (.pointer (some ⟨b, 0, none⟩)) (bs ++ [.int .u8 c]) ∧ Below B w w') := by
  have hBB : BelB B w w := BelB.refl hBw
  have hml : maxLen = 9223372036854775807 := by decide
  refine calls_W (fn := Try.f32) (rs := [.tmp 4]) (n := 17) Try.func32 rfl rfl Try.ntmps32 (by kernel_rfl) rfl ?_
  refine W_seq ?_
  refine W_region ?_
  refine WR_val rfl (rn_assign) ?_
  refine WR_nil ?_
  refine thenN ?_
  refine W_seq ?_
  refine W_region ?_
  refine WR_val rfl (rn_move) ?_
  refine WR_ent rfl (rn_call (by kernel_rfl) rfl) (copyCheck42 B b bs w h) ?_
  rintro _ w6 ⟨⟨hB, v, hb, hown, hne⟩, hb6⟩
  replace hBB := hBB.tr hb6
  have hr : row w6 b [.pointer (some ⟨b, 0, none⟩), v] 65 := hb
  refine WR_nil ?_
  refine thenN ?_
  refine W_seq ?_
  refine W_region ?_
  refine WR_val rfl (rn_move) ?_
  refine WR_val rfl (rn_move) ?_
  refine WR_val rfl (rn_nilCheckP rfl) ?_
  refine WR_val rfl (rn_fieldAddr (off := 1) (by kernel_rfl) rfl) ?_
  refine WR_val rfl (rn_load rfl (Ld.row1 hr (by kernel_rfl) rfl)) ?_
  refine WR_val rfl (rn_move) ?_
  refine WR_mk rfl (mk_one (e := 5) (.int .u8 c) ([.int .u8 c]) ([Value.int .u8 0]) 1 (by kernel_rfl) (by kernel_rfl) rfl rfl rfl ⟨by decide, by decide⟩ (fun g13 w13 hg13 hr13 hb13 => ?_))
  have ge_hBB_g13 := Nat.le_trans hBB.size hg13
  have lt_b_g13 : b < g13 := Nat.lt_of_lt_of_le hr.lt hg13
  replace hr := hr.new hb13
  replace hBB := hBB.acc hb13
  have hown := ownsRow_new hown hb13
  have hs13 := hr13.slA (m := 1) (sz := 1) rfl (by unfold maxLen; omega)
  have hsz14 := hBB.size
  refine WR_mk rfl (mk_appendR (e := 5) (sz := 1) (bytes := 1) (z := Value.int .u8 0) (by kernel_rfl) rfl (by kernel_rfl) rfl (by decide) rfl hown rfl hs13 (by simp [Value.oneCell']) (by decide) (by unfold maxLen; omega) (by omega) hsz14 (fun v14 w14 hown14 hgr14 => ?_))
  have hr := hr.kpd (Kp.of_grown hgr14) (fun hm => hne (Option.mem_toList.1 hm))
  have hne14 := ownBlock_of hown14 hr
  replace hBB := hBB.own (ownsAt_of_row hown) hgr14 (Nat.le_refl _)
  have hq14 := (ownsAt_of_row hown14).form
  obtain ⟨p14, c14, rfl⟩ := hq14
  refine WR_val rfl (rn_nilCheckP rfl) ?_
  refine WR_val rfl (rn_fieldAddr (off := 1) (by kernel_rfl) rfl) ?_
  refine WR_sk rfl (sk_store1 rfl rfl rfl rfl hr (by kernel_rfl) (by first | (simp only [List.length_replicate]; omega) | (simp only [iv_length]; omega) | simp) (fun w901 hr ho901 => ?_))
  replace hBB := hBB.onlyB ho901 (by omega)
  refine WR_nil ?_
  refine thenN ?_
  refine W_seq ?_
  refine W_region ?_
  refine WR_val rfl (rn_assign) ?_
  refine WR_nil ?_
  refine thenN ?_
  refine W_ret ?_
  refine ret_ret [_] ⟨rfl, trivial⟩ ?_
  exact ⟨⟨hB, .slice p14 (bs.length + 1) c14, hr, by rw [List.length_append]; exact ownsRow_only hown14 (by assumption) hne14, hne14⟩, hBB.bel⟩
end Go.Proofs.Ytknjiohhlemeiaa
