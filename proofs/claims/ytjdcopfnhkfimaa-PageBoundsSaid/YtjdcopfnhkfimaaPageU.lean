/- What is known, and whether acts are few. -/
import Derived.Test.YtjdcopfnhkfimaaPageT
namespace Go.Proofs.Ytjdcopfnhkfimaa
open Go Go.RowKit Coup

theorem new7g (k : Nat) (w : World) (hk : k ≤ 4) : Calls Try.prog 7 [.int .i64 (k : Int)].toArray w (Ret fun v w' => v = .tuple #[.agg (bv (bytesV ⟨k, 0, []⟩)).toArray, .int .i64 0] ∧ Below w.heap.size w w') := by
  have h := new7 (k : Int) w
  rw [if_pos (by omega), Int.toNat_natCast] at h
  exact h
def r10 : List UInt8 := List.replicate 10 0
def V1 : View := ⟨1, 0, []⟩
def V2 : View := ⟨1, 0, [some r10]⟩
theorem good_V1 : Good V1 := good_new (by omega)
theorem good_V2 : Good V2 := ⟨by decide, by decide, by decide, fun r hm => by simp [V2] at hm; subst hm; decide, by decide⟩
theorem lay_V1 : layE V1 r10 = 0 ∧ layP V1 r10 = bytesV V2 := by
  have h : layE V1 r10 = 0 := by decide
  refine ⟨h, ?_⟩
  rw [layP, if_pos h]; rfl
theorem room_V1 : roomV V1 = 400 := by decide
theorem room_V2 : roomV V2 = 400 := by decide
set_option maxHeartbeats 1000000 in
theorem few14 (p : Option Addr) (n cp most : Nat) (R : List ActT) (w : World) (h : ActsAt w p n R) (hm : most ≤ 1000) :
    Calls Try.prog 14 [.slice p n cp, .int .i64 (most : Int)].toArray w (Ret fun v w' => ∃ B : Bool, v = .bool B ∧ (B = true → n ≤ most ∧ ∀ (i : Nat) (a : ActT), R[i]? = some a → a.b.length ≤ 700) ∧ Below w.heap.size w w') := by
  have hB := Below.refl w.heap.size w
  have hmax := h.max
  have hml : maxLen = 9223372036854775807 := by decide
  refine calls_W (fn := Try.f14) (rs := [.tmp 4]) (n := 28) Try.func14 rfl rfl Try.ntmps14 (by kernel_rfl) rfl ?_
  refine W_seq ?_
  refine W_region ?_
  refine WR_val rfl (rn_assign) ?_
  refine WR_nil ?_
  refine thenN ?_
  refine W_seq ?_
  refine W_seq ?_
  refine W_region ?_
  refine WR_val rfl (rn_assign) ?_
  refine WR_nil ?_
  refine thenN ?_
  refine W_block ?_
  refine W_loop (α := Nat) 0 (fun i => [(5, .int .i64 (i : Nat)), (0, .slice p n cp), (1, .int .i64 (most : Int))]) (fun i w' => i ≤ n ∧ (∀ (j : Nat) (a : ActT), j < i → R[j]? = some a → a.b.length ≤ 700) ∧ Below w.heap.size w w') (fun i => n - i)
    ⟨rfl, rfl, rfl, rfl⟩ ⟨Nat.zero_le _, (by intro j x hj; exact absurd hj (Nat.not_lt_zero _)), hB⟩ ?_
  rintro i f wr ⟨hi, hall, hB⟩
  refine W_seq ?_
  refine W_seq ?_
  refine W_region ?_
  refine WR_val rfl (rn_move) ?_
  refine WR_val rfl (rn_move) ?_
  refine WR_val rfl (rn_lenSl (e := 39) (sz := 4) (by kernel_rfl) rfl rfl) ?_
  refine WR_val rfl (rn_lss rfl rfl) ?_
  refine WR_val rfl (rn_move) ?_
  refine WR_part 10 rfl (fun hlt => ?_) (fun hlt => ?_)
  ·
    refine WR_yes rfl ?_
    refine WR_val rfl (rn_move) ?_
    refine WR_yes rfl ?_
    refine WR_val rfl (rn_move) ?_
    refine WR_yes rfl ?_
    refine WR_val rfl (rn_leq rfl rfl) ?_
    refine WR_val rfl (rn_pick_t rfl) ?_
    refine WR_nil ?_
    refine thenN ?_
    refine W_ifp rfl (fun hle => ?_) (fun hle => ?_)
    ·
      refine W_skip ?_
      refine thenN ?_
      refine W_seq ?_
      refine W_block ?_
      refine W_seq ?_
      have hobt := h.get (i := i) (by omega)
      obtain ⟨a, hx⟩ := hobt
      have hobt := h.some (by omega)
      obtain ⟨g, o, rfl, hg⟩ := hobt
      have hobt := h.ld hx
      obtain ⟨q, qc, hq, hld⟩ := hobt
      refine W_region ?_
      refine WR_val rfl (rn_move) ?_
      refine WR_val rfl (rn_move) ?_
      refine WR_val rfl (rn_indexSl (e := 39) (sz := 4) (by kernel_rfl) rfl rfl (i) (by omega) (by omega)) ?_
      refine WR_val rfl (rn_fieldAddr (off := 3) (by kernel_rfl) rfl) ?_
      refine WR_val rfl (rn_load rfl (Ld.one (by kernel_rfl) (by rw [Nat.add_assoc]; exact (hld _ hB).2 3 _ rfl))) ?_
      refine WR_val rfl (rn_lenSl (e := 5) (sz := 1) (by kernel_rfl) rfl rfl) ?_
      refine WR_val rfl (rn_gtr rfl rfl) ?_
      refine WR_nil ?_
      refine thenN ?_
      refine W_ifp rfl (fun hl => ?_) (fun hl => ?_)
      ·
        refine W_seq ?_
        refine W_region ?_
        refine WR_val rfl (rn_assign) ?_
        refine WR_nil ?_
        refine thenN ?_
        refine W_ret ?_
        refine blockR ?_
        refine thenR ?_
        refine loopR ?_
        refine blockR ?_
        refine thenR ?_
        refine ret_ret [_] ⟨rfl, trivial⟩ ?_
        exact ⟨false, rfl, (by intro q; cases q), hB⟩
      ·
        refine W_skip ?_
        refine blockN ?_
        refine thenN ?_
        refine W_region ?_
        refine WR_val rfl (rn_move) ?_
        refine WR_val rfl (rn_add rfl rfl (Coup.w64 (by omega))) ?_
        refine WR_val rfl (rn_assign) ?_
        refine WR_nil ?_
        refine loopN ⟨i + 1, by omega, ⟨by go_num, rfl, rfl, rfl⟩, by omega, ?_, hB⟩
        intro j x hj hx'
        rcases Nat.lt_or_ge j i with h1 | h1
        · exact hall j x h1 hx'
        · obtain rfl : j = i := by omega
          rw [hx] at hx'; cases hx'
          omega
    ·
      refine W_exit ?_
      refine thenX ?_
      refine loopX ?_
      refine blockX ?_
      refine thenN ?_
      refine W_seq ?_
      refine W_region ?_
      refine WR_val rfl (rn_move) ?_
      refine WR_val rfl (rn_lenSl (e := 39) (sz := 4) (by kernel_rfl) rfl rfl) ?_
      refine WR_val rfl (rn_move) ?_
      refine WR_val rfl (rn_leq rfl rfl) ?_
      refine WR_val rfl (rn_assign) ?_
      refine WR_nil ?_
      refine thenN ?_
      refine W_ret ?_
      refine ret_ret [_] ⟨rfl, trivial⟩ ?_
      refine ⟨_, rfl, fun hd => ?_, hB⟩
      have := of_decide_eq_true hd
      omega
  ·
    refine WR_no rfl rfl ?_
    refine WR_no rfl rfl ?_
    refine WR_no rfl rfl ?_
    refine WR_val rfl (rn_pick_f rfl) ?_
    refine WR_nil ?_
    refine thenN ?_
    refine W_f rfl ?_
    refine W_exit ?_
    refine thenX ?_
    refine loopX ?_
    refine blockX ?_
    refine thenN ?_
    refine W_seq ?_
    refine W_region ?_
    refine WR_val rfl (rn_move) ?_
    refine WR_val rfl (rn_lenSl (e := 39) (sz := 4) (by kernel_rfl) rfl rfl) ?_
    refine WR_val rfl (rn_move) ?_
    refine WR_val rfl (rn_leq rfl rfl) ?_
    refine WR_val rfl (rn_assign) ?_
    refine WR_nil ?_
    refine thenN ?_
    refine W_ret ?_
    refine ret_ret [_] ⟨rfl, trivial⟩ ?_
    refine ⟨_, rfl, fun hd => ?_, hB⟩
    have := of_decide_eq_true hd
    refine ⟨by omega, fun j a hj => hall j a ?_ hj⟩
    have := (List.getElem?_eq_some_iff.1 hj).1
    have := h.1
    omega
theorem zero_r10 : List.replicate (10 * 1) (Value.int .u8 0) = bv r10 := by
  rw [r10, bv, List.map_replicate]; rfl
theorem r10_len : r10.length = 10 := by rw [r10, List.length_replicate]
set_option maxHeartbeats 1000000 in
theorem known13 (w : World) : Calls Try.prog 13 [].toArray w (Ret fun v w' => v = .bool true ∧ Below w.heap.size w w') := by
  have hB := Below.refl w.heap.size w
  have hml : maxLen = 9223372036854775807 := by decide
  have hN : ∀ w', Calls Try.prog 7 [.int .i64 1].toArray w' (Ret fun v w2 => v = .tuple #[.agg (bv (bytesV V1)).toArray, .int .i64 0] ∧ Below w'.heap.size w' w2) := fun w' => new7g 1 w' (by omega)
  have hL : ∀ pr cr w', SlAt w' pr r10.length 1 (bv r10) → Calls Try.prog 8 [.agg (bv (bytesV V1)).toArray, .slice pr 10 cr].toArray w' (Ret fun v w2 => v = .tuple #[.agg (bv (bytesV V2)).toArray, .int .i64 0, .int .i64 0] ∧ Below w'.heap.size w' w2) := fun pr cr w' h => by
    have := lay8 V1 pr cr r10 w' good_V1 h
    rw [lay_V1.2, lay_V1.1, r10_len] at this
    exact this
  have hR1 := fun w' => room10 V1 w' good_V1
  have hR2 := fun w' => room10 V2 w' good_V2
  have hS2 : ∀ w', Calls Try.prog 12 [.agg (bv (bytesV V2)).toArray].toArray w' (Ret fun v w2 => v = .int .i64 1 ∧ Below w'.heap.size w' w2) := fun w' => slots12 V2 w' good_V2
  have hM := fun w' => may18 ⟨0, 0, []⟩ w' (good_new (by omega))
  rw [room_V1] at hR1
  rw [room_V2] at hR2
  have hl1 := bytes_len good_V1
  have hl2 := bytes_len good_V2
  generalize bytesV V1 = Q1 at hN hL hR1 hl1
  generalize bytesV V2 = Q2 at hL hR2 hS2 hl2
  obtain ⟨Z, hzz, hzb, hzl⟩ := zeroQ
  refine calls_W (fn := Try.f13) (rs := [.tmp 0]) (n := 46) Try.func13 rfl rfl Try.ntmps13 (by kernel_rfl) rfl ?_
  refine W_seq ?_
  refine W_region ?_
  refine WR_val rfl (rn_assign) ?_
  refine WR_nil ?_
  refine thenN ?_
  refine W_seq ?_
  refine W_region ?_
  refine WR_ent rfl (rn_call (by kernel_rfl) rfl) (hN w) ?_
  rintro _ w7 ⟨rfl, hb7⟩
  replace hB := hB.acc hb7
  refine WR_val rfl (rn_move) ?_
  refine WR_val rfl (rn_extract rfl rfl) ?_
  refine WR_val rfl (rn_extract rfl rfl) ?_
  refine WR_mk rfl (mk_alloc (List.replicate 512 (Value.int .u8 0)) (by kernel_rfl) (fun g1 w1 hg1 hr1 hb1 => ?_))
  have ge_hB_g1 := Nat.le_trans hB.size hg1
  replace hB := hB.acc hb1
  rw [hzb] at hr1
  refine WR_sk rfl (sk_storeA 512 (bv Q1) rfl rfl hr1 (by kernel_rfl) (by first | assumption | (simp; done) | (simp [bv_length, *]; done)) (by first | assumption | (simp; done) | (simp [bv_length, *]; done) | rfl) (by first | exact bv_one _ | assumption | (simp [Value.oneCell']; done)) (fun w901 hr1 ho901 => ?_))
  replace hB := ho901.below hB ge_hB_g1
  refine WR_val rfl (rn_assign) ?_
  refine WR_nil ?_
  refine thenN ?_
  refine W_cut (fun g3 : Nat => [(1, .pointer (some ⟨g1, 0, none⟩)), (2, .int .i64 0), (3, .pointer (some ⟨g3, 0, none⟩)), (4, .int .i64 0), (5, .int .i64 0)]) (fun g3 w' => row w' g1 (bv Q1) 23 ∧ row w' g3 (bv Q2) 23 ∧ Below w.heap.size w w') ?_ ?_
  ·
    refine W_draw' [] (by kernel_rfl) ?_
    intro w902 hb902 hS902
    replace hr1 := hr1.new hb902
    replace hB := hB.acc hb902
    have hr1_d902 := hr1
    have hB_d902 := hB
    refine WA_take 0 (by kernel_rfl) rfl (fun w' hS' => rn_load rfl (Ld.rowA (k := 512) (hr1_d902.kpd hS' (by first | (simp; done) | (simp; omega) | (simp [*]; done))) (by kernel_rfl) (by kernel_rfl) (by first | (simp; done) | (simp [bv_length, *]; done) | assumption))) ?_
    refine WA_two 1 7 (by kernel_rfl) ?_ ?_
    ·
      refine WO_mk rfl rfl (mk_make (e := 5) 10 [.int .u8 0] 1 1 (.int .u8 0) (by kernel_rfl) (by kernel_rfl) ⟨_, rfl, rfl⟩ ⟨_, rfl, rfl⟩ (by simp) (by simp) (by omega) (by omega) (fun g12 w12 hg12 hr12 hb12 => ?_))
      have hS903 := hS902.add0 hb12
      refine ⟨hS903, ?_⟩
      have ge_hS902_g12 := Nat.le_trans hS902.size hg12
      have ge_hB_g12 := Nat.le_trans hB.size hg12
      have lt_g1_g12 : g1 < g12 := Nat.lt_of_lt_of_le hr1.lt hg12
      replace hr1 := hr1.new hb12
      replace hB := hB.acc hb12
      rw [zero_r10] at hr12
      refine WA_two 2 7 (by kernel_rfl) ?_ ?_
      ·
        refine WO_ent rfl rfl (rn_call (by kernel_rfl) rfl) (hL _ _ w12 (hr12.slA (m := r10.length) (sz := 1) (by rw [bv_length, Nat.mul_one]) (by rw [r10_len]; omega))) ?_
        rintro _ w13 ⟨rfl, hb13⟩
        have hS904 := hS903.add0 hb13
        refine ⟨hS904, ?_⟩
        replace hr1 := hr1.new hb13
        replace hr12 := hr12.new hb13
        replace hB := hB.acc hb13
        refine WA_take 3 (by kernel_rfl) rfl (fun _ _ => rn_move) ?_
        refine WA_take 4 (by kernel_rfl) rfl (fun _ _ => rn_extract rfl rfl) ?_
        refine WA_take 5 (by kernel_rfl) rfl (fun _ _ => rn_extract rfl rfl) ?_
        refine WA_take 6 (by kernel_rfl) rfl (fun _ _ => rn_extract rfl rfl) ?_
        refine WA_one 7 (by kernel_rfl) ?_
        refine WO_mk rfl rfl (mk_alloc (List.replicate 512 (Value.int .u8 0)) (by kernel_rfl) (fun g3 w3 hg3 hr3 hb3 => ?_))
        have hS905 := hS904.add0 hb3
        refine ⟨hS905, ?_⟩
        have ge_hS904_g3 := Nat.le_trans hS904.size hg3
        have ge_hB_g3 := Nat.le_trans hB.size hg3
        have lt_g1_g3 : g1 < g3 := Nat.lt_of_lt_of_le hr1.lt hg3
        have lt_g12_g3 : g12 < g3 := Nat.lt_of_lt_of_le hr12.lt hg3
        replace hr1 := hr1.new hb3
        replace hr12 := hr12.new hb3
        replace hB := hB.acc hb3
        rw [hzb] at hr3
        refine WA_one 8 (by kernel_rfl) ?_
        refine WO_sk rfl rfl (sk_storeA 512 (bv Q2) rfl rfl hr3 (by kernel_rfl) (by first | assumption | (simp; done) | (simp [bv_length, *]; done)) (by first | assumption | (simp; done) | (simp [bv_length, *]; done) | rfl) (by first | exact bv_one _ | assumption | (simp [Value.oneCell']; done)) (fun w907 hr3 ho907 => ?_))
        have hS906 := hS905.add1 ho907 (by first | (left; omega) | (right; simp; done) | (right; simp; omega))
        refine ⟨hS906, ?_⟩
        replace hr1 := hr1.only ho907 (Nat.ne_of_lt lt_g1_g3)
        replace hr12 := hr12.only ho907 (Nat.ne_of_lt lt_g12_g3)
        replace hB := ho907.below hB ge_hB_g3
        refine WA_take 9 (by kernel_rfl) rfl (fun _ _ => rn_assign) ?_
        refine WA_take 10 (by kernel_rfl) rfl (fun _ _ => rn_assign) ?_
        refine WA_done (by kernel_rfl) ?_
        refine loopN ⟨g3, ⟨rfl, rfl, rfl, rfl, rfl, rfl⟩, hr1, hr3, hB⟩
      ·
        refine WO_mk rfl rfl (mk_alloc (List.replicate 512 (Value.int .u8 0)) (by kernel_rfl) (fun g3 w3 hg3 hr3 hb3 => ?_))
        have hS908 := hS903.add0 hb3
        refine ⟨hS908, ?_⟩
        have ge_hS903_g3 := Nat.le_trans hS903.size hg3
        have ge_hB_g3 := Nat.le_trans hB.size hg3
        have lt_g1_g3 : g1 < g3 := Nat.lt_of_lt_of_le hr1.lt hg3
        have lt_g12_g3 : g12 < g3 := Nat.lt_of_lt_of_le hr12.lt hg3
        replace hr1 := hr1.new hb3
        replace hr12 := hr12.new hb3
        replace hB := hB.acc hb3
        rw [hzb] at hr3
        refine WA_one 2 (by kernel_rfl) ?_
        refine WO_ent rfl rfl (rn_call (by kernel_rfl) rfl) (hL _ _ w3 (hr12.slA (m := r10.length) (sz := 1) (by rw [bv_length, Nat.mul_one]) (by rw [r10_len]; omega))) ?_
        rintro _ w13 ⟨rfl, hb13⟩
        have hS909 := hS908.add0 hb13
        refine ⟨hS909, ?_⟩
        replace hr1 := hr1.new hb13
        replace hr12 := hr12.new hb13
        replace hr3 := hr3.new hb13
        replace hB := hB.acc hb13
        refine WA_take 3 (by kernel_rfl) rfl (fun _ _ => rn_move) ?_
        refine WA_take 4 (by kernel_rfl) rfl (fun _ _ => rn_extract rfl rfl) ?_
        refine WA_take 5 (by kernel_rfl) rfl (fun _ _ => rn_extract rfl rfl) ?_
        refine WA_take 6 (by kernel_rfl) rfl (fun _ _ => rn_extract rfl rfl) ?_
        refine WA_one 8 (by kernel_rfl) ?_
        refine WO_sk rfl rfl (sk_storeA 512 (bv Q2) rfl rfl hr3 (by kernel_rfl) (by first | assumption | (simp; done) | (simp [bv_length, *]; done)) (by first | assumption | (simp; done) | (simp [bv_length, *]; done) | rfl) (by first | exact bv_one _ | assumption | (simp [Value.oneCell']; done)) (fun w911 hr3 ho911 => ?_))
        have hS910 := hS909.add1 ho911 (by first | (left; omega) | (right; simp; done) | (right; simp; omega))
        refine ⟨hS910, ?_⟩
        replace hr1 := hr1.only ho911 (Nat.ne_of_lt lt_g1_g3)
        replace hr12 := hr12.only ho911 (Nat.ne_of_lt lt_g12_g3)
        replace hB := ho911.below hB ge_hB_g3
        refine WA_take 9 (by kernel_rfl) rfl (fun _ _ => rn_assign) ?_
        refine WA_take 10 (by kernel_rfl) rfl (fun _ _ => rn_assign) ?_
        refine WA_done (by kernel_rfl) ?_
        refine loopN ⟨g3, ⟨rfl, rfl, rfl, rfl, rfl, rfl⟩, hr1, hr3, hB⟩
    ·
      refine WO_mk rfl rfl (mk_alloc (List.replicate 512 (Value.int .u8 0)) (by kernel_rfl) (fun g3 w3 hg3 hr3 hb3 => ?_))
      have hS912 := hS902.add0 hb3
      refine ⟨hS912, ?_⟩
      have ge_hS902_g3 := Nat.le_trans hS902.size hg3
      have ge_hB_g3 := Nat.le_trans hB.size hg3
      have lt_g1_g3 : g1 < g3 := Nat.lt_of_lt_of_le hr1.lt hg3
      replace hr1 := hr1.new hb3
      replace hB := hB.acc hb3
      rw [hzb] at hr3
      refine WA_one 1 (by kernel_rfl) ?_
      refine WO_mk rfl rfl (mk_make (e := 5) 10 [.int .u8 0] 1 1 (.int .u8 0) (by kernel_rfl) (by kernel_rfl) ⟨_, rfl, rfl⟩ ⟨_, rfl, rfl⟩ (by simp) (by simp) (by omega) (by omega) (fun g12 w12 hg12 hr12 hb12 => ?_))
      have hS913 := hS912.add0 hb12
      refine ⟨hS913, ?_⟩
      have ge_hS912_g12 := Nat.le_trans hS912.size hg12
      have ge_hB_g12 := Nat.le_trans hB.size hg12
      have lt_g1_g12 : g1 < g12 := Nat.lt_of_lt_of_le hr1.lt hg12
      have lt_g3_g12 : g3 < g12 := Nat.lt_of_lt_of_le hr3.lt hg12
      replace hr1 := hr1.new hb12
      replace hr3 := hr3.new hb12
      replace hB := hB.acc hb12
      rw [zero_r10] at hr12
      refine WA_one 2 (by kernel_rfl) ?_
      refine WO_ent rfl rfl (rn_call (by kernel_rfl) rfl) (hL _ _ w12 (hr12.slA (m := r10.length) (sz := 1) (by rw [bv_length, Nat.mul_one]) (by rw [r10_len]; omega))) ?_
      rintro _ w13 ⟨rfl, hb13⟩
      have hS914 := hS913.add0 hb13
      refine ⟨hS914, ?_⟩
      replace hr1 := hr1.new hb13
      replace hr3 := hr3.new hb13
      replace hr12 := hr12.new hb13
      replace hB := hB.acc hb13
      refine WA_take 3 (by kernel_rfl) rfl (fun _ _ => rn_move) ?_
      refine WA_take 4 (by kernel_rfl) rfl (fun _ _ => rn_extract rfl rfl) ?_
      refine WA_take 5 (by kernel_rfl) rfl (fun _ _ => rn_extract rfl rfl) ?_
      refine WA_take 6 (by kernel_rfl) rfl (fun _ _ => rn_extract rfl rfl) ?_
      refine WA_one 8 (by kernel_rfl) ?_
      refine WO_sk rfl rfl (sk_storeA 512 (bv Q2) rfl rfl hr3 (by kernel_rfl) (by first | assumption | (simp; done) | (simp [bv_length, *]; done)) (by first | assumption | (simp; done) | (simp [bv_length, *]; done) | rfl) (by first | exact bv_one _ | assumption | (simp [Value.oneCell']; done)) (fun w916 hr3 ho916 => ?_))
      have hS915 := hS914.add1 ho916 (by first | (left; omega) | (right; simp; done) | (right; simp; omega))
      refine ⟨hS915, ?_⟩
      replace hr1 := hr1.only ho916 (Nat.ne_of_lt lt_g1_g3)
      replace hr12 := hr12.only ho916 (Nat.ne_of_gt lt_g3_g12)
      replace hB := ho916.below hB ge_hB_g3
      refine WA_take 9 (by kernel_rfl) rfl (fun _ _ => rn_assign) ?_
      refine WA_take 10 (by kernel_rfl) rfl (fun _ _ => rn_assign) ?_
      refine WA_done (by kernel_rfl) ?_
      refine loopN ⟨g3, ⟨rfl, rfl, rfl, rfl, rfl, rfl⟩, hr1, hr3, hB⟩
  ·
    rintro g3 f1 w1 ⟨hr1, hr3, hB⟩
    refine W_seq ?_
    refine W_region ?_
    refine WR_val rfl (rn_move) ?_
    refine WR_val rfl (rn_eql rfl rfl) ?_
    refine WR_val rfl (rn_move) ?_
    refine WR_tp 19 rfl (rfl) ?_
    refine WR_yes rfl ?_
    refine WR_val rfl (rn_move) ?_
    refine WR_yes rfl ?_
    refine WR_val rfl (rn_eql rfl rfl) ?_
    refine WR_val rfl (rn_pick_t rfl) ?_
    refine WR_val rfl (rn_move) ?_
    refine WR_tp 23 rfl (rfl) ?_
    refine WR_yes rfl ?_
    refine WR_val rfl (rn_move) ?_
    refine WR_yes rfl ?_
    refine WR_val rfl (rn_eql rfl rfl) ?_
    refine WR_val rfl (rn_pick_t rfl) ?_
    refine WR_val rfl (rn_move) ?_
    refine WR_tp 27 rfl (rfl) ?_
    refine WR_yes rfl ?_
    refine WR_val rfl (rn_load rfl (Ld.rowA (k := 512) hr1 (by kernel_rfl) (by kernel_rfl) (by first | (simp; done) | (simp [bv_length, *]; done) | assumption))) ?_
    refine WR_yes rfl ?_
    refine WR_ent rfl (rn_call (by kernel_rfl) rfl) (hR1 w1) ?_
    rintro _ w29 ⟨rfl, hb29⟩
    replace hr1 := hr1.new hb29
    replace hr3 := hr3.new hb29
    replace hB := hB.acc hb29
    refine WR_yes rfl ?_
    refine WR_val rfl (rn_eql rfl rfl) ?_
    refine WR_val rfl (rn_pick_t rfl) ?_
    refine WR_val rfl (rn_move) ?_
    refine WR_tp 32 rfl (rfl) ?_
    refine WR_yes rfl ?_
    refine WR_val rfl (rn_load rfl (Ld.rowA (k := 512) hr3 (by kernel_rfl) (by kernel_rfl) (by first | (simp; done) | (simp [bv_length, *]; done) | assumption))) ?_
    refine WR_yes rfl ?_
    refine WR_ent rfl (rn_call (by kernel_rfl) rfl) (hR2 w29) ?_
    rintro _ w34 ⟨rfl, hb34⟩
    replace hr1 := hr1.new hb34
    replace hr3 := hr3.new hb34
    replace hB := hB.acc hb34
    refine WR_yes rfl ?_
    refine WR_val rfl (rn_eql rfl rfl) ?_
    refine WR_val rfl (rn_pick_t rfl) ?_
    refine WR_val rfl (rn_move) ?_
    refine WR_tp 37 rfl (rfl) ?_
    refine WR_yes rfl ?_
    refine WR_val rfl (rn_load rfl (Ld.rowA (k := 512) hr3 (by kernel_rfl) (by kernel_rfl) (by first | (simp; done) | (simp [bv_length, *]; done) | assumption))) ?_
    refine WR_yes rfl ?_
    refine WR_ent rfl (rn_call (by kernel_rfl) rfl) (hS2 w34) ?_
    rintro _ w39 ⟨rfl, hb39⟩
    replace hr1 := hr1.new hb39
    replace hr3 := hr3.new hb39
    replace hB := hB.acc hb39
    refine WR_yes rfl ?_
    refine WR_val rfl (rn_eql rfl rfl) ?_
    refine WR_val rfl (rn_pick_t rfl) ?_
    refine WR_val rfl (rn_move) ?_
    refine WR_tp 42 rfl (rfl) ?_
    refine WR_yes rfl ?_
    refine WR_val rfl (rn_built2 (.int .u8 0) (.int .u8 2) (bv (bytesV ⟨0, 0, []⟩)) rfl rfl (by kernel_rfl)) ?_
    refine WR_yes rfl ?_
    refine WR_ent rfl (rn_call (by kernel_rfl) rfl) (hM w39) ?_
    rintro _ w44 ⟨rfl, hb44⟩
    replace hr1 := hr1.new hb44
    replace hr3 := hr3.new hb44
    replace hB := hB.acc hb44
    refine WR_val rfl (rn_pick_t rfl) ?_
    refine WR_val rfl (rn_assign) ?_
    refine WR_nil ?_
    refine thenN ?_
    refine W_ret ?_
    refine ret_ret [_] ⟨rfl, trivial⟩ ?_
    exact ⟨rfl, hB⟩
end Go.Proofs.Ytjdcopfnhkfimaa
