/- The law DiskNil: what one that is not there, and a zero one, answer. -/
import Derived.Test.YtpndhildmfmcgaaDiskN
namespace Go.Proofs.Ytpndhildmfmcgaa
open Go Go.RowKit Coup

def nilQ (g1 : Nat) (i : Nat) : Value := if i = 0 then .pointer none else .pointer (some ⟨g1, 0, none⟩)
set_option maxRecDepth 8000 in
set_option maxHeartbeats 2000000 in
theorem diskNilC (w : World) : Calls Try.prog 8 [].toArray w (Ret fun v w' => v = .bool true ∧ Below w.heap.size w w') := by
  have hB := Below.refl w.heap.size w
  have hml : maxLen = 9223372036854775807 := by decide
  obtain ⟨Z, hzz, hzb, hzl⟩ := zeroSQ
  have hZl : Z.length = 128 := by rw [bv_length] at hzl; exact hzl
  have hR := fun w' q (h : NilD w' q) => n23 h 0
  rw [hzz] at hR
  refine calls_W (fn := Try.f8) (rs := [.tmp 0]) (n := 97) Try.func8 rfl rfl Try.ntmps8 (by kernel_rfl) rfl ?_
  refine W_seq ?_
  refine W_region ?_
  refine WR_val rfl (rn_assign) ?_
  refine WR_nil ?_
  refine thenN ?_
  refine W_seq ?_
  refine W_region ?_
  refine WR_mk rfl (mk_alloc ([Value.slice none 0 0, Value.map none, Value.int .i64 0, Value.bool false, Value.bool false]) (by kernel_rfl) (fun g1 w1 hg1 hr1 hb1 => ?_))
  have ge_hB_g1 := Nat.le_trans hB.size hg1
  replace hB := hB.acc hb1
  refine WR_nil ?_
  refine thenN ?_
  refine W_seq ?_
  refine W_region ?_
  refine WR_mk rfl (mk_two (e := 25) (.pointer none) (.pointer (some ⟨g1, 0, none⟩)) ([.pointer none]) ([.pointer (some ⟨g1, 0, none⟩)]) ([Value.pointer none]) 1 (by kernel_rfl) (by kernel_rfl) rfl rfl rfl rfl (by first | rfl | (simp; done) | (simp [bv_length, *]; done)) (by first | rfl | (simp; done) | (simp [bv_length, *]; done)) ⟨by decide, by decide⟩ (fun g9 w9 hg9 hr9 hb9 => ?_))
  have ge_hB_g9 := Nat.le_trans hB.size hg9
  have lt_g1_g9 : g1 < g9 := Nat.lt_of_lt_of_le hr1.lt hg9
  replace hr1 := hr1.new hb9
  replace hB := hB.acc hb9
  refine WR_val rfl (rn_assign) ?_
  refine WR_nil ?_
  refine thenN ?_
  refine W_seq ?_
  refine W_seq ?_
  refine W_region ?_
  refine WR_val rfl (rn_assign) ?_
  refine WR_nil ?_
  refine thenN ?_
  refine W_block ?_
  refine W_loop (α := Nat) 0 (fun i => [(3, .int .i64 (i : Nat)), (2, .slice (some ⟨g9, 0, none⟩) 2 2), (1, .pointer (some ⟨g1, 0, none⟩))])
    (fun i w' => i ≤ 2 ∧ row w' g1 zeroDk 63 ∧ row w' g9 [.pointer none, .pointer (some ⟨g1, 0, none⟩)] 25 ∧ Below w.heap.size w w') (fun i => 2 - i)
    ⟨rfl, rfl, rfl, rfl⟩ ⟨Nat.zero_le _, hr1, hr9, hB⟩ ?_
  clear hr1 hr9 hB
  rintro i f wr ⟨hi, hr1, hr9, hB⟩
  refine W_seq ?_
  refine W_seq ?_
  refine W_region ?_
  refine WR_val rfl (rn_move) ?_
  refine WR_val rfl (rn_move) ?_
  refine WR_val rfl (rn_lenSl (e := 25) (sz := 1) (by kernel_rfl) rfl rfl) ?_
  refine WR_val rfl (rn_lss rfl rfl) ?_
  refine WR_nil ?_
  refine thenN ?_
  refine W_ifp rfl (fun hlt => ?_) (fun hlt => ?_)
  ·
    refine W_skip ?_
    refine thenN ?_
    refine W_seq ?_
    refine W_block ?_
    refine W_seq ?_
    obtain ⟨q, hq, hQ⟩ : ∃ q, [Value.pointer none, Value.pointer (some ⟨g1, 0, none⟩)][i]? = some q ∧ ∀ w', row w' g1 zeroDk 63 → NilD w' q := by
      match i, hlt with
      | 0, _ => exact ⟨_, rfl, fun _ _ => .inl rfl⟩
      | 1, _ => exact ⟨_, rfl, fun _ h => .inr ⟨g1, rfl, h⟩⟩
    refine W_region ?_
    refine WR_val rfl (rn_move) ?_
    refine WR_val rfl (rn_move) ?_
    refine WR_val rfl (rn_indexSl1 (e := 25) (by kernel_rfl) rfl rfl (i) (by omega) (by omega)) ?_
    refine WR_val rfl (rn_load rfl (Ld.row1 hr9 (by kernel_rfl) (show [Value.pointer none, Value.pointer (some ⟨g1, 0, none⟩)][0 + i]? = some q by rw [Nat.zero_add]; exact hq))) ?_
    refine WR_val rfl (rn_assign) ?_
    refine WR_nil ?_
    refine thenN ?_
    refine W_seq ?_
    refine W_region ?_
    refine WR_val rfl (rn_move) ?_
    refine WR_ent rfl (rn_call (by kernel_rfl) rfl) (hR wr q (hQ wr hr1)) ?_
    rintro _ w22 ⟨rfl, hb22⟩
    replace hr1 := hr1.new hb22
    replace hr9 := hr9.new hb22
    replace hB := hB.acc hb22
    refine WR_val rfl (rn_move) ?_
    refine WR_val rfl (rn_extract rfl rfl) ?_
    refine WR_val rfl (rn_extract rfl rfl) ?_
    refine WR_mk rfl (mk_alloc (List.replicate 128 (Value.int .u8 0)) (by kernel_rfl) (fun g5 w5 hg5 hr5 hb5 => ?_))
    have ge_hB_g5 := Nat.le_trans hB.size hg5
    have lt_g1_g5 : g1 < g5 := Nat.lt_of_lt_of_le hr1.lt hg5
    have lt_g9_g5 : g9 < g5 := Nat.lt_of_lt_of_le hr9.lt hg5
    replace hr1 := hr1.new hb5
    replace hr9 := hr9.new hb5
    replace hB := hB.acc hb5
    rw [hzb] at hr5
    refine WR_sk rfl (sk_storeA 128 (bv Z) rfl rfl hr5 (by kernel_rfl) (by first | assumption | (simp; done) | (simp [bv_length, *]; done)) (by first | assumption | (simp; done) | (simp [bv_length, *]; done) | rfl) (by first | exact bv_one _ | assumption | (simp [Value.oneCell']; done)) (fun w901 hr5 ho901 => ?_))
    replace hr1 := hr1.only ho901 (Nat.ne_of_lt lt_g1_g5)
    replace hr9 := hr9.only ho901 (Nat.ne_of_lt lt_g9_g5)
    replace hB := ho901.below hB ge_hB_g5
    refine WR_val rfl (rn_assign) ?_
    refine WR_nil ?_
    refine thenN ?_
    refine W_seq ?_
    refine W_region ?_
    refine WR_val rfl (rn_move) ?_
    refine WR_val rfl (rn_neq rfl rfl) ?_
    refine WR_val rfl (rn_move) ?_
    refine WR_fp 27 rfl ((by omega)) ?_
    refine WR_yes rfl ?_
    refine WR_val rfl (rn_move) ?_
    refine WR_yes rfl ?_
    refine WR_val rfl (rn_zeroed (bv Z) (by rw [← hzb]; kernel_rfl)) ?_
    refine WR_yes rfl ?_
    refine WR_ent rfl (rn_call (by kernel_rfl) rfl) (n17 (hQ w901 hr1) 0 Z hZl) ?_
    rintro _ w30 ⟨rfl, hb30⟩
    replace hr1 := hr1.new hb30
    replace hr9 := hr9.new hb30
    replace hr5 := hr5.new hb30
    replace hB := hB.acc hb30
    refine WR_yes rfl ?_
    refine WR_val rfl (rn_neq rfl rfl) ?_
    refine WR_val rfl (rn_pick_f rfl) ?_
    refine WR_val rfl (rn_move) ?_
    refine WR_fp 33 rfl ((by omega)) ?_
    refine WR_yes rfl ?_
    refine WR_val rfl (rn_move) ?_
    refine WR_yes rfl ?_
    refine WR_ent rfl (rn_call (by kernel_rfl) rfl) (n16 (hQ w30 hr1)) ?_
    rintro _ _ ⟨rfl, rfl⟩
    refine WR_yes rfl ?_
    refine WR_val rfl (rn_neq rfl rfl) ?_
    refine WR_val rfl (rn_pick_f rfl) ?_
    refine WR_val rfl (rn_move) ?_
    refine WR_fp 38 rfl ((by omega)) ?_
    refine WR_yes rfl ?_
    refine WR_val rfl (rn_move) ?_
    refine WR_yes rfl ?_
    refine WR_ent rfl (rn_call (by kernel_rfl) rfl) (n15 (hQ w30 hr1) (-1)) ?_
    rintro _ _ ⟨rfl, rfl⟩
    refine WR_yes rfl ?_
    refine WR_val rfl (rn_neq rfl rfl) ?_
    refine WR_val rfl (rn_pick_f rfl) ?_
    refine WR_val rfl (rn_move) ?_
    refine WR_fp 43 rfl ((by omega)) ?_
    refine WR_yes rfl ?_
    refine WR_val rfl (rn_move) ?_
    refine WR_yes rfl ?_
    refine WR_ent rfl (rn_call (by kernel_rfl) rfl) (n20 (hQ w30 hr1) _) ?_
    rintro _ _ ⟨rfl, rfl⟩
    refine WR_yes rfl ?_
    refine WR_val rfl (rn_neq rfl rfl) ?_
    refine WR_val rfl (rn_pick_f rfl) ?_
    refine WR_val rfl (rn_move) ?_
    refine WR_fp 48 rfl ((by omega)) ?_
    refine WR_yes rfl ?_
    refine WR_val rfl (rn_move) ?_
    refine WR_yes rfl ?_
    refine WR_ent rfl (rn_call (by kernel_rfl) rfl) (n27 (hQ w30 hr1)) ?_
    rintro _ _ ⟨rfl, rfl⟩
    refine WR_yes rfl ?_
    refine WR_val rfl (rn_neq rfl rfl) ?_
    refine WR_val rfl (rn_pick_f rfl) ?_
    refine WR_val rfl (rn_move) ?_
    refine WR_fp 53 rfl ((by omega)) ?_
    refine WR_yes rfl ?_
    refine WR_val rfl (rn_move) ?_
    refine WR_yes rfl ?_
    refine WR_ent rfl (rn_call (by kernel_rfl) rfl) (n18 (hQ w30 hr1)) ?_
    rintro _ _ ⟨rfl, rfl⟩
    refine WR_val rfl (rn_pick_f rfl) ?_
    refine WR_val rfl (rn_move) ?_
    refine WR_fb 57 rfl (rfl) ?_
    refine WR_yes rfl ?_
    refine WR_val rfl (rn_move) ?_
    refine WR_yes rfl ?_
    refine WR_ent rfl (rn_call (by kernel_rfl) rfl) (n22 (hQ w30 hr1)) ?_
    rintro _ w59 ⟨rfl, hb59⟩
    replace hr1 := hr1.new hb59
    replace hr9 := hr9.new hb59
    replace hr5 := hr5.new hb59
    replace hB := hB.acc hb59
    refine WR_yes rfl ?_
    refine WR_val rfl (rn_lenSl (e := 3) (sz := 1) (by kernel_rfl) rfl rfl) ?_
    refine WR_yes rfl ?_
    refine WR_val rfl (rn_gtr rfl rfl) ?_
    refine WR_val rfl (rn_pick_f rfl) ?_
    refine WR_val rfl (rn_move) ?_
    refine WR_fp 63 rfl ((by omega)) ?_
    refine WR_yes rfl ?_
    refine WR_val rfl (rn_move) ?_
    refine WR_yes rfl ?_
    refine WR_ent rfl (rn_call (by kernel_rfl) rfl) (n21 (hQ w59 hr1)) ?_
    rintro _ _ ⟨rfl, rfl⟩
    refine WR_yes rfl ?_
    refine WR_val rfl (rn_neqP0 (by kernel_rfl) rfl rfl) ?_
    refine WR_val rfl (rn_pick_f rfl) ?_
    refine WR_val rfl (rn_move) ?_
    refine WR_fb 68 rfl (rfl) ?_
    refine WR_yes rfl ?_
    refine WR_val rfl (rn_move) ?_
    refine WR_yes rfl ?_
    refine WR_ent rfl (rn_call (by kernel_rfl) rfl) (n19 (hQ w59 hr1) (.inl rfl)) ?_
    rintro _ _ ⟨rfl, rfl⟩
    refine WR_yes rfl ?_
    refine WR_val rfl (rn_not rfl) ?_
    refine WR_val rfl (rn_pick_f rfl) ?_
    refine WR_nil ?_
    refine thenN ?_
    refine W_fnb rfl (rfl) ?_
    refine W_skip ?_
    refine blockN ?_
    refine thenN ?_
    refine W_region ?_
    refine WR_val rfl (rn_move) ?_
    refine WR_val rfl (rn_add rfl rfl (Coup.w64 (by omega))) ?_
    refine WR_val rfl (rn_assign) ?_
    refine WR_nil ?_
    refine loopN ⟨i + 1, by omega, ⟨by go_num, rfl, rfl, rfl⟩, by omega, hr1, hr9, hB⟩
  ·
    refine W_exit ?_
    refine thenX ?_
    refine loopX ?_
    refine blockX ?_
    refine thenN ?_
    refine W_seq ?_
    refine W_region ?_
    have hz := hr1
    refine WR_ent rfl (rn_call (by kernel_rfl) rfl) (newC 8192 (by omega) (by omega)) ?_
    rintro _ w74 ⟨g, B, rfl, hX, hBlo, hb74⟩
    replace hr1 := hr1.new hb74
    replace hr9 := hr9.new hb74
    replace hB := hB.acc hb74
    have hD0 : Duo (DZ g (newD 8192)) None 0 w74 := Duo.one hX (fun _ _ => Nat.zero_le _)
    have hlen : ((newD 8192).V.length : Int) = 8192 := by rw [newD_len]; rfl
    have hS := sectors hX
    rw [hlen] at hS
    refine WR_val rfl (rn_move) ?_
    refine WR_val rfl (rn_extract rfl rfl) ?_
    refine WR_val rfl (rn_extract rfl rfl) ?_
    refine WR_val rfl (rn_assign) ?_
    refine WR_val rfl (rn_assign) ?_
    refine WR_nil ?_
    refine thenN ?_
    refine W_seq ?_
    refine W_region ?_
    refine WR_val rfl (rn_move) ?_
    refine WR_val rfl (rn_eql rfl rfl) ?_
    refine WR_val rfl (rn_move) ?_
    refine WR_tp 79 rfl (rfl) ?_
    refine WR_yes rfl ?_
    refine WR_val rfl (rn_move) ?_
    refine WR_yes rfl ?_
    refine WR_ent rfl (rn_call (by kernel_rfl) rfl) (hS) ?_
    rintro _ _ ⟨rfl, rfl⟩
    refine WR_yes rfl ?_
    refine WR_val rfl (rn_eql rfl rfl) ?_
    refine WR_val rfl (rn_pick_t rfl) ?_
    refine WR_val rfl (rn_move) ?_
    refine WR_tp 84 rfl (rfl) ?_
    refine WR_yes rfl ?_
    refine WR_val rfl (rn_move) ?_
    refine WR_yes rfl ?_
    refine WR_ent rfl (rn_call (by kernel_rfl) rfl) (n19b hS (n27 (.inl rfl)) (by omega)) ?_
    rintro _ _ ⟨rfl, rfl⟩
    refine WR_yes rfl ?_
    refine WR_val rfl (rn_not rfl) ?_
    refine WR_val rfl (rn_pick_t rfl) ?_
    refine WR_val rfl (rn_move) ?_
    refine WR_tnb 89 rfl (rfl) ?_
    refine WR_yes rfl ?_
    refine WR_val rfl (rn_move) ?_
    refine WR_yes rfl ?_
    refine WR_ent rfl (rn_call (by kernel_rfl) rfl) (n19b (n27 (.inr ⟨g1, rfl, hr1⟩)) hS (by omega)) ?_
    rintro _ _ ⟨rfl, rfl⟩
    refine WR_yes rfl ?_
    refine WR_val rfl (rn_not rfl) ?_
    refine WR_val rfl (rn_pick_t rfl) ?_
    refine WR_val rfl (rn_move) ?_
    refine WR_tnb 94 rfl (rfl) ?_
    refine WR_yes rfl ?_
    refine WR_ent rfl (rn_call (by kernel_rfl) rfl) (known10 w74) ?_
    rintro _ w95 ⟨rfl, hb95⟩
    replace hr1 := hr1.new hb95
    replace hr9 := hr9.new hb95
    replace hB := hB.acc hb95
    refine WR_val rfl (rn_pick_t rfl) ?_
    refine WR_val rfl (rn_assign) ?_
    refine WR_nil ?_
    refine thenN ?_
    refine W_ret ?_
    refine ret_ret [_] ⟨rfl, trivial⟩ ?_
    exact ⟨rfl, hB⟩
end Go.Proofs.Ytpndhildmfmcgaa
