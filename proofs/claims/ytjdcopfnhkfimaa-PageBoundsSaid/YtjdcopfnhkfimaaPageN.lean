/- The reference's pages: may a page be, and what a page has. -/
import Derived.Test.YtjdcopfnhkfimaaPageM
namespace Go.Proofs.Ytjdcopfnhkfimaa
open Go Go.RowKit Coup

set_option maxHeartbeats 1000000 in
theorem rmay39 (V : View) (p : Option Addr) (c : Nat) (fl : List Value) (w : World) (o : List Nat) (h : SlAt w p V.slots.length 2 fl) (hs : RsAt w o fl V.slots) (hV : Good V) :
    Calls Try.prog 39 [.agg #[.int .i64 (V.kind : Int), .int .i64 (V.next : Int), .slice p V.slots.length c]].toArray w (Ret fun v w' => v = .bool true ∧ Below w.heap.size w w') := by
  have hB := Below.refl w.heap.size w
  have hml : maxLen = 9223372036854775807 := by decide
  have hmax := h.max
  have hkd := hV.kind
  have hnx := hV.next
  have hzV := hV.size
  have hSz := fun w' h1 h2 => rsize33 V p c fl w' o h1 h2 (by omega) (V.next : Int)
  obtain ⟨S, hS⟩ : ∃ S, V.slots = S := ⟨_, rfl⟩
  have hcell := hV.cell
  have hlast := hV.last
  rw [hS] at h hs hmax hcell hlast hSz ⊢
  refine calls_W (fn := Try.f39) (rs := [.tmp 2]) (n := 57) Try.func39 rfl rfl Try.ntmps39 (by kernel_rfl) rfl ?_
  refine W_seq ?_
  refine W_region ?_
  refine WR_mk rfl (mk_box ([_, _, _]) rfl (fun g1 w1 hg1 hr1 hb1 => ?_))
  have ge_hB_g1 := Nat.le_trans hB.size hg1
  replace hB := hB.acc hb1
  refine WR_val rfl (rn_assign) ?_
  refine WR_nil ?_
  refine thenN ?_
  refine W_seq ?_
  refine W_seq ?_
  refine W_region ?_
  refine WR_val rfl (rn_fieldAddr (off := 0) (by kernel_rfl) rfl) ?_
  refine WR_val rfl (rn_load rfl (Ld.row1 hr1 (by kernel_rfl) rfl)) ?_
  refine WR_val rfl (rn_lss rfl rfl) ?_
  refine WR_val rfl (rn_move) ?_
  refine WR_fp 7 rfl ((by omega)) ?_
  refine WR_yes rfl ?_
  refine WR_val rfl (rn_fieldAddr (off := 0) (by kernel_rfl) rfl) ?_
  refine WR_yes rfl ?_
  refine WR_val rfl (rn_load rfl (Ld.row1 hr1 (by kernel_rfl) rfl)) ?_
  refine WR_yes rfl ?_
  refine WR_val rfl (rn_gtr rfl rfl) ?_
  refine WR_val rfl (rn_pick_f rfl) ?_
  refine WR_val rfl (rn_move) ?_
  refine WR_fp 12 rfl ((by omega)) ?_
  refine WR_yes rfl ?_
  refine WR_val rfl (rn_fieldAddr (off := 1) (by kernel_rfl) rfl) ?_
  refine WR_yes rfl ?_
  refine WR_val rfl (rn_load rfl (Ld.row1 hr1 (by kernel_rfl) rfl)) ?_
  refine WR_yes rfl ?_
  refine WR_val rfl (rn_lss rfl rfl) ?_
  refine WR_val rfl (rn_pick_f rfl) ?_
  refine WR_val rfl (rn_move) ?_
  refine WR_fp 17 rfl ((by omega)) ?_
  refine WR_yes rfl ?_
  refine WR_val rfl (rn_fieldAddr (off := 1) (by kernel_rfl) rfl) ?_
  refine WR_yes rfl ?_
  refine WR_val rfl (rn_load rfl (Ld.row1 hr1 (by kernel_rfl) rfl)) ?_
  refine WR_yes rfl ?_
  refine WR_val rfl (rn_gtr rfl rfl) ?_
  refine WR_val rfl (rn_pick_f rfl) ?_
  refine WR_val rfl (rn_move) ?_
  refine WR_fp 22 rfl ((by omega)) ?_
  refine WR_yes rfl ?_
  refine WR_val rfl (rn_load rfl (Ld.rowA (k := 3) hr1 (by kernel_rfl) (by kernel_rfl) (by first | (simp; done) | (simp [bv_length, *]; done) | assumption))) ?_
  refine WR_yes rfl ?_
  refine WR_ent rfl (rn_call (by kernel_rfl) rfl) (hSz w1 (h.below hB (Nat.le_refl _)) (hs.new hB)) ?_
  rintro _ w24 ⟨rfl, hb24⟩
  replace hr1 := hr1.new hb24
  replace hB := hB.acc hb24
  refine WR_yes rfl ?_
  refine WR_val rfl (rn_gtr rfl rfl) ?_
  refine WR_val rfl (rn_pick_f rfl) ?_
  refine WR_nil ?_
  refine thenN ?_
  refine W_fp rfl ((by omega)) ?_
  refine W_skip ?_
  refine thenN ?_
  refine W_seq ?_
  refine W_seq ?_
  refine W_region ?_
  refine WR_val rfl (rn_assign) ?_
  refine WR_nil ?_
  refine thenN ?_
  refine W_block ?_
  have hw1 : w.heap.size ≤ g1 := by omega
  refine W_loop (α := Nat) 0 (fun i => [(3, .int .i64 (i : Nat)), (1, .pointer (some ⟨g1, 0, none⟩))]) (fun i w' => i ≤ S.length ∧ row w' g1 [.int .i64 (V.kind : Int), .int .i64 (V.next : Int), .slice p S.length c] 57 ∧ Below w.heap.size w w') (fun i => S.length - i)
    ⟨rfl, rfl, rfl⟩ ⟨Nat.zero_le _, hr1, hB⟩ ?_
  clear hr1 hB
  rintro i f wr ⟨hi, hr1, hB⟩
  refine W_seq ?_
  refine W_seq ?_
  refine W_region ?_
  refine WR_val rfl (rn_move) ?_
  refine WR_val rfl (rn_fieldAddr (off := 2) (by kernel_rfl) rfl) ?_
  refine WR_val rfl (rn_load rfl (Ld.row1 hr1 (by kernel_rfl) rfl)) ?_
  refine WR_val rfl (rn_lenSl (e := 69) (sz := 2) (by kernel_rfl) rfl rfl) ?_
  refine WR_val rfl (rn_lss rfl rfl) ?_
  refine WR_nil ?_
  refine thenN ?_
  refine W_ifp rfl (fun hlt => ?_) (fun hlt => ?_)
  ·
    refine W_skip ?_
    refine thenN ?_
    refine W_seq ?_
    refine W_block ?_
    refine W_seq ?_
    have hobt : ∃ s, S[i]? = some s := ⟨_, List.getElem?_eq_getElem (by omega)⟩
    obtain ⟨s, hsi⟩ := hobt
    have hvv := (hs.at_ i s hsi).2
    obtain ⟨q, cq, hv, hq, _⟩ := hvv
    have hobt := h.some (by omega)
    obtain ⟨g, off, rfl, hg⟩ := hobt
    have h4 : (bod s).length ≤ 400 := by
      cases s with
      | none => simp [bod]
      | some r => exact hcell r (List.mem_of_getElem? hsi)
    refine W_region ?_
    refine WR_val rfl (rn_fieldAddr (off := 2) (by kernel_rfl) rfl) ?_
    refine WR_val rfl (rn_load rfl (Ld.row1 hr1 (by kernel_rfl) rfl)) ?_
    refine WR_val rfl (rn_move) ?_
    refine WR_val rfl (rn_indexSl (e := 69) (sz := 2) (by kernel_rfl) rfl rfl (i) (by omega) (by omega)) ?_
    refine WR_val rfl (rn_fieldAddr (off := 1) (by kernel_rfl) rfl) ?_
    refine WR_val rfl (rn_load rfl (Ld.sl1 (off := off) (j := i * 2 + 1) (h.below hB (Nat.le_refl _)) (by kernel_rfl) hv)) ?_
    refine WR_val rfl (rn_lenSl (e := 5) (sz := 1) (by kernel_rfl) rfl rfl) ?_
    refine WR_val rfl (rn_gtr rfl rfl) ?_
    refine WR_nil ?_
    refine thenN ?_
    refine W_fp rfl ((by omega)) ?_
    refine W_skip ?_
    refine blockN ?_
    refine thenN ?_
    refine W_region ?_
    refine WR_val rfl (rn_move) ?_
    refine WR_val rfl (rn_add rfl rfl (Coup.w64 (by omega))) ?_
    refine WR_val rfl (rn_assign) ?_
    refine WR_nil ?_
    refine loopN ⟨i + 1, by omega, ⟨by go_num, rfl, rfl⟩, by omega, hr1, hB⟩
  ·
    obtain rfl : i = S.length := by omega
    refine W_exit ?_
    refine thenX ?_
    refine loopX ?_
    refine blockX ?_
    refine thenN ?_
    refine W_seq ?_
    refine W_region ?_
    refine WR_val rfl (rn_fieldAddr (off := 2) (by kernel_rfl) rfl) ?_
    refine WR_val rfl (rn_load rfl (Ld.row1 hr1 (by kernel_rfl) rfl)) ?_
    refine WR_val rfl (rn_lenSl (e := 69) (sz := 2) (by kernel_rfl) rfl rfl) ?_
    refine WR_val rfl (rn_eql rfl rfl) ?_
    refine WR_val rfl (rn_move) ?_
    refine WR_part 46 rfl (fun h0 => ?_) (fun h0 => ?_)
    ·
      refine WR_no rfl rfl ?_
      refine WR_no rfl rfl ?_
      refine WR_no rfl rfl ?_
      refine WR_no rfl rfl ?_
      refine WR_no rfl rfl ?_
      refine WR_no rfl rfl ?_
      refine WR_no rfl rfl ?_
      refine WR_no rfl rfl ?_
      refine WR_no rfl rfl ?_
      refine WR_val rfl (rn_pick_t rfl) ?_
      refine WR_val rfl (rn_assign) ?_
      refine WR_nil ?_
      refine thenN ?_
      refine W_ret ?_
      refine ret_ret [_] ⟨rfl, trivial⟩ ?_
      exact ⟨rfl, hB⟩
    ·
      obtain ⟨s, hsi⟩ : ∃ s, S[S.length - 1]? = some s := ⟨_, List.getElem?_eq_getElem (by omega)⟩
      have hvv := (hs.at_ _ s hsi).1
      have hqs : s.isSome = true := by
        cases s with
        | none => exact absurd (by rw [List.getLast?_eq_getElem?]; exact hsi) hlast
        | some r => rfl
      rw [hqs] at hvv
      have hsm := h.some (by omega)
      obtain ⟨g, off, rfl, hg⟩ := hsm
      refine WR_yes rfl ?_
      refine WR_val rfl (rn_fieldAddr (off := 2) (by kernel_rfl) rfl) ?_
      refine WR_yes rfl ?_
      refine WR_val rfl (rn_load rfl (Ld.row1 hr1 (by kernel_rfl) rfl)) ?_
      refine WR_yes rfl ?_
      refine WR_val rfl (rn_fieldAddr (off := 2) (by kernel_rfl) rfl) ?_
      refine WR_yes rfl ?_
      refine WR_val rfl (rn_load rfl (Ld.row1 hr1 (by kernel_rfl) rfl)) ?_
      refine WR_yes rfl ?_
      refine WR_val rfl (rn_lenSl (e := 69) (sz := 2) (by kernel_rfl) rfl rfl) ?_
      refine WR_yes rfl ?_
      refine WR_val rfl (rn_sub rfl rfl (Coup.w64 (by omega))) ?_
      refine WR_yes rfl ?_
      refine WR_val rfl (rn_indexSl (e := 69) (sz := 2) (by kernel_rfl) rfl rfl (S.length - 1) (by omega) (by omega)) ?_
      refine WR_yes rfl ?_
      refine WR_val rfl (rn_fieldAddr (off := 0) (by kernel_rfl) rfl) ?_
      refine WR_yes rfl ?_
      refine WR_val rfl (rn_load rfl (Ld.sl1 (off := off) (j := (S.length - 1) * 2) (h.below hB (Nat.le_refl _)) (by kernel_rfl) hvv)) ?_
      refine WR_val rfl (rn_pick_f rfl) ?_
      refine WR_val rfl (rn_assign) ?_
      refine WR_nil ?_
      refine thenN ?_
      refine W_ret ?_
      refine ret_ret [_] ⟨rfl, trivial⟩ ?_
      exact ⟨rfl, hB⟩
end Go.Proofs.Ytjdcopfnhkfimaa
