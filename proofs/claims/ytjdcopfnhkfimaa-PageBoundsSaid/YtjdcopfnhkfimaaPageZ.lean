/- The stage's theorem, walked. -/
import Derived.Test.YtjdcopfnhkfimaaPageY
namespace Go.Proofs.Ytjdcopfnhkfimaa
open Go Go.RowKit Coup

set_option maxHeartbeats 2000000 in
theorem meansC (k : Int) (p : Option Addr) (n cp : Nat) (R : List ActT) (w : World) (h : ActsAt w p n R) :
    Calls Try.prog 6 [.int .i64 k, .slice p n cp].toArray w (Ret fun v w' => v = .bool true ∧ Below w.heap.size w w') := by
  have hB := Below.refl w.heap.size w
  have hml : maxLen = 9223372036854775807 := by decide
  obtain ⟨Z, hzz, hzb, hzl⟩ := zeroQ
  refine calls_W (fn := Try.f6) (rs := [.tmp 4]) (n := 127) Try.func6 rfl rfl Try.ntmps6 (by kernel_rfl) rfl ?_
  refine W_seq ?_
  refine W_region ?_
  refine WR_val rfl (rn_assign) ?_
  refine WR_nil ?_
  refine thenN ?_
  refine W_seq ?_
  refine W_seq ?_
  refine W_region ?_
  refine WR_val rfl (rn_move) ?_
  refine WR_ent rfl (rn_call (by kernel_rfl) rfl) (few14 p n cp 60 R w (h.below hB) (by omega)) ?_
  rintro _ w17 ⟨Bf, rfl, hfew, hb17⟩
  replace hB := hB.acc hb17
  refine WR_val rfl (rn_not rfl) ?_
  refine WR_val rfl (rn_move) ?_
  refine WR_partnb 19 rfl (fun h0 => ?_) (fun h0 => ?_)
  ·
    refine WR_no rfl rfl ?_
    refine WR_no rfl rfl ?_
    refine WR_val rfl (rn_pick_t rfl) ?_
    refine WR_val rfl (rn_move) ?_
    refine WR_no rfl rfl ?_
    refine WR_no rfl rfl ?_
    refine WR_val rfl (rn_pick_t rfl) ?_
    refine WR_nil ?_
    refine thenN ?_
    refine W_t rfl ?_
    refine W_seq ?_
    refine W_region ?_
    refine WR_ent rfl (rn_call (by kernel_rfl) rfl) (known13 w17) ?_
    rintro _ w27 ⟨rfl, hb27⟩
    replace hB := hB.acc hb27
    refine WR_val rfl (rn_assign) ?_
    refine WR_nil ?_
    refine thenN ?_
    refine W_ret ?_
    refine thenR ?_
    refine ret_ret [_] ⟨rfl, trivial⟩ ?_
    exact ⟨rfl, hB⟩
  ·
    refine WR_yes rfl ?_
    refine WR_val rfl (rn_move) ?_
    refine WR_yes rfl ?_
    refine WR_val rfl (rn_lss rfl rfl) ?_
    refine WR_val rfl (rn_pick_f rfl) ?_
    refine WR_val rfl (rn_move) ?_
    refine WR_part 23 rfl (fun h1 => ?_) (fun h1 => ?_)
    ·
      refine WR_no rfl rfl ?_
      refine WR_no rfl rfl ?_
      refine WR_val rfl (rn_pick_t rfl) ?_
      refine WR_nil ?_
      refine thenN ?_
      refine W_t rfl ?_
      refine W_seq ?_
      refine W_region ?_
      refine WR_ent rfl (rn_call (by kernel_rfl) rfl) (known13 w17) ?_
      rintro _ w27 ⟨rfl, hb27⟩
      replace hB := hB.acc hb27
      refine WR_val rfl (rn_assign) ?_
      refine WR_nil ?_
      refine thenN ?_
      refine W_ret ?_
      refine thenR ?_
      refine ret_ret [_] ⟨rfl, trivial⟩ ?_
      exact ⟨rfl, hB⟩
    ·
      refine WR_yes rfl ?_
      refine WR_val rfl (rn_move) ?_
      refine WR_yes rfl ?_
      refine WR_val rfl (rn_gtr rfl rfl) ?_
      refine WR_val rfl (rn_pick_f rfl) ?_
      refine WR_nil ?_
      refine thenN ?_
      refine W_ifp rfl (fun h2 => ?_) (fun h2 => ?_)
      ·
        refine W_seq ?_
        refine W_region ?_
        refine WR_ent rfl (rn_call (by kernel_rfl) rfl) (known13 w17) ?_
        rintro _ w27 ⟨rfl, hb27⟩
        replace hB := hB.acc hb27
        refine WR_val rfl (rn_assign) ?_
        refine WR_nil ?_
        refine thenN ?_
        refine W_ret ?_
        refine thenR ?_
        refine ret_ret [_] ⟨rfl, trivial⟩ ?_
        exact ⟨rfl, hB⟩
      ·
        obtain ⟨k, rfl⟩ : ∃ k' : Nat, k = k' := ⟨k.toNat, by omega⟩
        have hBt : Bf = true := by cases Bf with | true => rfl | false => cases h0
        obtain ⟨hn, hR⟩ := hfew hBt
        have hgp := playV_good R ⟨k, 0, []⟩ (good_new (by omega)) hR
        have hPl := fun w' h' => plays15 k p n cp R w' (by omega) h' hR (by omega)
        have hob : ∃ V, playV ⟨k, 0, []⟩ R = V := ⟨_, rfl⟩
        obtain ⟨V, hVd⟩ := hob
        rw [hVd] at hgp hPl
        have hV := hgp.1
        have hVk : V.kind = k := hgp.2
        have hbl := bytes_len hV
        have hMy := fun w' => may18 V w' hV
        have hKd := fun w' => kind19 V w' hV
        rw [hVk] at hKd
        have hNw := fun w' => new7g k w' (by omega)
        rw [show (⟨k, 0, []⟩ : View) = onV V 0 by rw [on_zero, hVk]] at hNw
        have hSl := fun w' => slots12 V w' hV
        have hGt := fun (i : Nat) w' => get17 V (i : Int) w' hV
        have hNx := fun w' => next20 V w' hV
        have hOl := fun i => bytes_len (onV_good hV i)
        have hMl := fun i => bytes_len (miV_good hV i)
        have hLa := fun i pr cr r w' h' => lay8 (onV V i) pr cr r w' (onV_good hV i) h'
        have hTk := fun (i : Nat) w' => take11 (miV V i) (i : Int) w' (miV_good hV i)
        have hLk := fun w' => link9a (miV V V.slots.length) V.next w' (miV_good hV _) hV.next
        rw [mi_end] at hLk
        have hz2 := hV.size
        unfold sizeV at hz2
        have hob2 : ∃ Q, bytesV V = Q := ⟨_, rfl⟩
        obtain ⟨Q, hQ⟩ := hob2
        rw [hQ] at hPl hMy hKd hSl hGt hNx hLk hbl
        have hbq : Q.length = 512 := by rw [bv_length] at hbl; exact hbl
        refine W_skip ?_
        refine thenN ?_
        refine W_seq ?_
        refine W_region ?_
        refine WR_val rfl (rn_move) ?_
        refine WR_val rfl (rn_move) ?_
        refine WR_ent rfl (rn_call (by kernel_rfl) rfl) (hPl w17 (h.below hB)) ?_
        rintro _ w31 ⟨rfl, hb31⟩
        replace hB := hB.acc hb31
        refine WR_val rfl (rn_move) ?_
        refine WR_val rfl (rn_extract rfl rfl) ?_
        refine WR_val rfl (rn_extract rfl rfl) ?_
        refine WR_mk rfl (mk_alloc (List.replicate 512 (Value.int .u8 0)) (by kernel_rfl) (fun g5 w5 hg5 hr5 hb5 => ?_))
        have ge_hB_g5 := Nat.le_trans hB.size hg5
        replace hB := hB.acc hb5
        rw [hzb] at hr5
        refine WR_sk rfl (sk_storeA 512 (bv Q) rfl rfl hr5 (by kernel_rfl) (by first | assumption | (simp; done) | (simp [bv_length, *]; done)) (by first | assumption | (simp; done) | (simp [bv_length, *]; done) | rfl) (by first | exact bv_one _ | assumption | (simp [Value.oneCell']; done)) (fun w901 hr5 ho901 => ?_))
        replace hB := ho901.below hB ge_hB_g5
        refine WR_val rfl (rn_assign) ?_
        refine WR_nil ?_
        refine thenN ?_
        refine W_seq ?_
        refine W_seq ?_
        refine W_region ?_
        refine WR_val rfl (rn_move) ?_
        refine WR_val rfl (rn_not rfl) ?_
        refine WR_val rfl (rn_move) ?_
        refine WR_fnb 36 rfl (rfl) ?_
        refine WR_yes rfl ?_
        refine WR_val rfl (rn_load rfl (Ld.rowA (k := 512) hr5 (by kernel_rfl) (by kernel_rfl) (by first | (simp; done) | (simp [bv_length, *]; done) | assumption))) ?_
        refine WR_yes rfl ?_
        refine WR_ent rfl (rn_call (by kernel_rfl) rfl) (hMy w901) ?_
        rintro _ w38 ⟨rfl, hb38⟩
        replace hr5 := hr5.new hb38
        replace hB := hB.acc hb38
        refine WR_yes rfl ?_
        refine WR_val rfl (rn_not rfl) ?_
        refine WR_val rfl (rn_pick_f rfl) ?_
        refine WR_val rfl (rn_move) ?_
        refine WR_fnb 41 rfl (rfl) ?_
        refine WR_yes rfl ?_
        refine WR_val rfl (rn_load rfl (Ld.rowA (k := 512) hr5 (by kernel_rfl) (by kernel_rfl) (by first | (simp; done) | (simp [bv_length, *]; done) | assumption))) ?_
        refine WR_yes rfl ?_
        refine WR_ent rfl (rn_call (by kernel_rfl) rfl) (hKd w38) ?_
        rintro _ w43 ⟨rfl, hb43⟩
        replace hr5 := hr5.new hb43
        replace hB := hB.acc hb43
        refine WR_yes rfl ?_
        refine WR_val rfl (rn_move) ?_
        refine WR_yes rfl ?_
        refine WR_val rfl (rn_neq rfl rfl) ?_
        refine WR_val rfl (rn_pick_f rfl) ?_
        refine WR_nil ?_
        refine thenN ?_
        refine W_fp rfl ((by simp)) ?_
        refine W_skip ?_
        refine thenN ?_
        refine W_seq ?_
        refine W_region ?_
        refine WR_val rfl (rn_move) ?_
        refine WR_ent rfl (rn_call (by kernel_rfl) rfl) (hNw w43) ?_
        rintro _ w49 ⟨rfl, hb49⟩
        replace hr5 := hr5.new hb49
        replace hB := hB.acc hb49
        refine WR_val rfl (rn_move) ?_
        refine WR_val rfl (rn_extract rfl rfl) ?_
        refine WR_val rfl (rn_extract rfl rfl) ?_
        refine WR_mk rfl (mk_alloc (List.replicate 512 (Value.int .u8 0)) (by kernel_rfl) (fun g7 w7 hg7 hr7 hb7 => ?_))
        have ge_hB_g7 := Nat.le_trans hB.size hg7
        have lt_g5_g7 : g5 < g7 := Nat.lt_of_lt_of_le hr5.lt hg7
        replace hr5 := hr5.new hb7
        replace hB := hB.acc hb7
        rw [hzb] at hr7
        have hO0 := hOl 0
        refine WR_sk rfl (sk_storeA 512 (bv (bytesV (onV V 0))) rfl rfl hr7 (by kernel_rfl) (by first | assumption | (simp; done) | (simp [bv_length, *]; done)) (by first | assumption | (simp; done) | (simp [bv_length, *]; done) | rfl) (by first | exact bv_one _ | assumption | (simp [Value.oneCell']; done)) (fun w902 hr7 ho902 => ?_))
        replace hr5 := hr5.only ho902 (Nat.ne_of_lt lt_g5_g7)
        replace hB := ho902.below hB ge_hB_g7
        refine WR_val rfl (rn_assign) ?_
        refine WR_nil ?_
        refine thenN ?_
        refine W_seq ?_
        refine W_region ?_
        refine WR_val rfl (rn_assign) ?_
        refine WR_nil ?_
        refine thenN ?_
        refine W_seq ?_
        refine W_seq ?_
        refine W_region ?_
        refine WR_val rfl (rn_assign) ?_
        refine WR_nil ?_
        refine thenN ?_
        refine W_block ?_
        refine W_loop (α := Nat) 0 (fun i => [(10, .int .i64 (i : Nat)), (8, .int .i64 0), (5, .pointer (some ⟨g5, 0, none⟩)), (7, .pointer (some ⟨g7, 0, none⟩))]) (fun i w' => i ≤ V.slots.length ∧ row w' g5 (bv Q) 23 ∧ row w' g7 (bv (bytesV (onV V i))) 23 ∧ Below w.heap.size w w') (fun i => V.slots.length - i)
          ⟨rfl, rfl, rfl, rfl, rfl⟩ ⟨Nat.zero_le _, hr5, hr7, hB⟩ ?_
        clear hr5 hr7 hB hO0
        have hw7 : w.heap.size ≤ g7 := by omega
        rintro i f wr ⟨hi, hr5, hr7, hB⟩
        have hoi := hOl i
        refine W_seq ?_
        refine W_seq ?_
        refine W_region ?_
        refine WR_val rfl (rn_move) ?_
        refine WR_val rfl (rn_load rfl (Ld.rowA (k := 512) hr5 (by kernel_rfl) (by kernel_rfl) (by first | (simp; done) | (simp [bv_length, *]; done) | assumption))) ?_
        refine WR_ent rfl (rn_call (by kernel_rfl) rfl) (hSl wr) ?_
        rintro _ w54 ⟨rfl, hb54⟩
        replace hr5 := hr5.new hb54
        replace hr7 := hr7.new hb54
        replace hB := hB.acc hb54
        refine WR_val rfl (rn_lss rfl rfl) ?_
        refine WR_val rfl (rn_move) ?_
        refine WR_part 56 rfl (fun hlt => ?_) (fun hlt => ?_)
        ·
          refine WR_yes rfl ?_
          refine WR_val rfl (rn_move) ?_
          refine WR_yes rfl ?_
          refine WR_val rfl (rn_eql rfl rfl) ?_
          refine WR_val rfl (rn_pick_t rfl) ?_
          refine WR_nil ?_
          refine thenN ?_
          refine W_tp rfl (rfl) ?_
          refine W_skip ?_
          refine thenN ?_
          refine W_seq ?_
          refine W_block ?_
          refine W_seq ?_
          have hobt : ∃ s, V.slots[i]? = some s := ⟨_, List.getElem?_eq_getElem (by omega)⟩
          obtain ⟨s, hsi⟩ := hobt
          have hgb := getR_bod hsi
          have hol := onV_lay hV hsi
          have hG2 := hGt i
          have hL2 := fun pr cr w' h' => hLa i pr cr (bod s) w' h'
          rw [hgb.1, hgb.2] at hG2
          rw [layP, hol.1, if_pos rfl, if_pos rfl, hol.2.1, hol.2.2] at hL2
          have hoi2 := hOl (i + 1)
          have hobt : ∃ Q1, bytesV (onV V i) = Q1 := ⟨_, rfl⟩
          obtain ⟨Q1, hQ1⟩ := hobt
          have hobt : ∃ Q2, bytesV (onV V (i + 1)) = Q2 := ⟨_, rfl⟩
          obtain ⟨Q2, hQ2⟩ := hobt
          rw [hQ1] at hL2 hoi hr7
          rw [hQ2] at hL2 hoi2
          refine W_region ?_
          refine WR_val rfl (rn_load rfl (Ld.rowA (k := 512) hr5 (by kernel_rfl) (by kernel_rfl) (by first | (simp; done) | (simp [bv_length, *]; done) | assumption))) ?_
          refine WR_val rfl (rn_move) ?_
          refine WR_ent rfl (rn_call (by kernel_rfl) rfl) (hG2 w54) ?_
          rintro _ w65 ⟨⟨qx, cx, rfl, hqx⟩, hb65⟩
          replace hr5 := hr5.new hb65
          replace hr7 := hr7.new hb65
          replace hB := hB.acc hb65
          refine WR_val rfl (rn_move) ?_
          refine WR_val rfl (rn_extract rfl rfl) ?_
          refine WR_val rfl (rn_extract rfl rfl) ?_
          refine WR_val rfl (rn_assign) ?_
          refine WR_val rfl (rn_assign) ?_
          refine WR_nil ?_
          refine thenN ?_
          refine W_seq ?_
          refine W_seq ?_
          refine W_region ?_
          refine WR_val rfl (rn_move) ?_
          refine WR_val rfl (rn_neq rfl rfl) ?_
          refine WR_val rfl (rn_move) ?_
          refine WR_part 70 rfl (fun hf0 => ?_) (fun hf0 => ?_)
          ·
            refine WR_yes rfl ?_
            refine WR_val rfl (rn_move) ?_
            refine WR_yes rfl ?_
            refine WR_val rfl (rn_neq rfl rfl) ?_
            refine WR_val rfl (rn_pick_t rfl) ?_
            refine WR_nil ?_
            refine thenN ?_
            refine W_fp rfl ((by revert hf0; split <;> simp)) ?_
            refine W_skip ?_
            refine thenN ?_
            refine W_seq ?_
            refine W_region ?_
            refine WR_val rfl (rn_load rfl (Ld.rowA (k := 512) hr7 (by kernel_rfl) (by kernel_rfl) (by first | (simp; done) | (simp [bv_length, *]; done) | assumption))) ?_
            refine WR_val rfl (rn_move) ?_
            refine WR_ent rfl (rn_call (by kernel_rfl) rfl) (hL2 qx cx w65 hqx) ?_
            rintro _ w77 ⟨rfl, hb77⟩
            replace hr5 := hr5.new hb77
            replace hr7 := hr7.new hb77
            replace hqx := hqx.new hb77
            replace hB := hB.acc hb77
            refine WR_val rfl (rn_move) ?_
            refine WR_val rfl (rn_extract rfl rfl) ?_
            refine WR_val rfl (rn_extract rfl rfl) ?_
            refine WR_val rfl (rn_extract rfl rfl) ?_
            refine WR_sk rfl (sk_storeA 512 (bv Q2) rfl rfl hr7 (by kernel_rfl) (by first | assumption | (simp; done) | (simp [bv_length, *]; done)) (by first | assumption | (simp; done) | (simp [bv_length, *]; done) | rfl) (by first | exact bv_one _ | assumption | (simp [Value.oneCell']; done)) (fun w903 hr7 ho903 => ?_))
            replace hr5 := hr5.only ho903 (Nat.ne_of_lt lt_g5_g7)
            replace hB := ho903.below hB ge_hB_g7
            refine WR_val rfl (rn_assign) ?_
            refine WR_val rfl (rn_assign) ?_
            refine WR_nil ?_
            refine thenN ?_
            refine W_seq ?_
            refine W_region ?_
            refine WR_val rfl (rn_move) ?_
            refine WR_val rfl (rn_move) ?_
            refine WR_val rfl (rn_neq rfl rfl) ?_
            refine WR_nil ?_
            refine thenN ?_
            refine W_fp rfl ((by simp)) ?_
            refine W_skip ?_
            refine blockN ?_
            refine thenN ?_
            refine W_region ?_
            refine WR_val rfl (rn_move) ?_
            refine WR_val rfl (rn_add rfl rfl (Coup.w64 (by omega))) ?_
            refine WR_val rfl (rn_assign) ?_
            refine WR_nil ?_
            refine loopN ⟨i + 1, by omega, ⟨by go_num, rfl, rfl, rfl, rfl⟩, by omega, hr5, by rw [hQ2]; exact hr7, hB⟩
          ·
            refine WR_no rfl rfl ?_
            refine WR_no rfl rfl ?_
            refine WR_val rfl (rn_pick_f rfl) ?_
            refine WR_nil ?_
            refine thenN ?_
            refine W_f rfl ?_
            refine W_skip ?_
            refine thenN ?_
            refine W_seq ?_
            refine W_region ?_
            refine WR_val rfl (rn_load rfl (Ld.rowA (k := 512) hr7 (by kernel_rfl) (by kernel_rfl) (by first | (simp; done) | (simp [bv_length, *]; done) | assumption))) ?_
            refine WR_val rfl (rn_move) ?_
            refine WR_ent rfl (rn_call (by kernel_rfl) rfl) (hL2 qx cx w65 hqx) ?_
            rintro _ w77 ⟨rfl, hb77⟩
            replace hr5 := hr5.new hb77
            replace hr7 := hr7.new hb77
            replace hqx := hqx.new hb77
            replace hB := hB.acc hb77
            refine WR_val rfl (rn_move) ?_
            refine WR_val rfl (rn_extract rfl rfl) ?_
            refine WR_val rfl (rn_extract rfl rfl) ?_
            refine WR_val rfl (rn_extract rfl rfl) ?_
            refine WR_sk rfl (sk_storeA 512 (bv Q2) rfl rfl hr7 (by kernel_rfl) (by first | assumption | (simp; done) | (simp [bv_length, *]; done)) (by first | assumption | (simp; done) | (simp [bv_length, *]; done) | rfl) (by first | exact bv_one _ | assumption | (simp [Value.oneCell']; done)) (fun w904 hr7 ho904 => ?_))
            replace hr5 := hr5.only ho904 (Nat.ne_of_lt lt_g5_g7)
            replace hB := ho904.below hB ge_hB_g7
            refine WR_val rfl (rn_assign) ?_
            refine WR_val rfl (rn_assign) ?_
            refine WR_nil ?_
            refine thenN ?_
            refine W_seq ?_
            refine W_region ?_
            refine WR_val rfl (rn_move) ?_
            refine WR_val rfl (rn_move) ?_
            refine WR_val rfl (rn_neq rfl rfl) ?_
            refine WR_nil ?_
            refine thenN ?_
            refine W_fp rfl ((by simp)) ?_
            refine W_skip ?_
            refine blockN ?_
            refine thenN ?_
            refine W_region ?_
            refine WR_val rfl (rn_move) ?_
            refine WR_val rfl (rn_add rfl rfl (Coup.w64 (by omega))) ?_
            refine WR_val rfl (rn_assign) ?_
            refine WR_nil ?_
            refine loopN ⟨i + 1, by omega, ⟨by go_num, rfl, rfl, rfl, rfl⟩, by omega, hr5, by rw [hQ2]; exact hr7, hB⟩
        ·
          obtain rfl : i = V.slots.length := by omega
          rw [← mi_zero] at hr7
          refine WR_no rfl rfl ?_
          refine WR_no rfl rfl ?_
          refine WR_val rfl (rn_pick_f rfl) ?_
          refine WR_nil ?_
          refine thenN ?_
          refine W_f rfl ?_
          refine W_exit ?_
          refine thenX ?_
          refine loopX ?_
          refine blockX ?_
          refine thenN ?_
          refine W_seq ?_
          refine W_seq ?_
          refine W_region ?_
          refine WR_val rfl (rn_assign) ?_
          refine WR_nil ?_
          refine thenN ?_
          refine W_block ?_
          refine W_loop (α := Nat) 0 (fun i => [(13, .int .i64 (i : Nat)), (8, .int .i64 0), (5, .pointer (some ⟨g5, 0, none⟩)), (7, .pointer (some ⟨g7, 0, none⟩))]) (fun i w' => i ≤ V.slots.length ∧ row w' g5 (bv Q) 23 ∧ row w' g7 (bv (bytesV (miV V i))) 23 ∧ Below w.heap.size w w') (fun i => V.slots.length - i)
            ⟨rfl, rfl, rfl, rfl, rfl⟩ ⟨Nat.zero_le _, hr5, hr7, hB⟩ ?_
          clear hr5 hr7 hB hoi
          rintro i f2 wz ⟨hi, hr5, hr7, hB⟩
          have hmi := hMl i
          refine W_seq ?_
          refine W_seq ?_
          refine W_region ?_
          refine WR_val rfl (rn_move) ?_
          refine WR_val rfl (rn_load rfl (Ld.rowA (k := 512) hr5 (by kernel_rfl) (by kernel_rfl) (by first | (simp; done) | (simp [bv_length, *]; done) | assumption))) ?_
          refine WR_ent rfl (rn_call (by kernel_rfl) rfl) (hSl wz) ?_
          rintro _ w86 ⟨rfl, hb86⟩
          replace hr5 := hr5.new hb86
          replace hr7 := hr7.new hb86
          replace hB := hB.acc hb86
          refine WR_val rfl (rn_lss rfl rfl) ?_
          refine WR_val rfl (rn_move) ?_
          refine WR_part 88 rfl (fun hlt => ?_) (fun hlt => ?_)
          ·
            refine WR_yes rfl ?_
            refine WR_val rfl (rn_move) ?_
            refine WR_yes rfl ?_
            refine WR_val rfl (rn_eql rfl rfl) ?_
            refine WR_val rfl (rn_pick_t rfl) ?_
            refine WR_nil ?_
            refine thenN ?_
            refine W_tp rfl (rfl) ?_
            refine W_skip ?_
            refine thenN ?_
            refine W_seq ?_
            refine W_block ?_
            refine W_seq ?_
            have hobt : ∃ s, V.slots[i]? = some s := ⟨_, List.getElem?_eq_getElem (by omega)⟩
            obtain ⟨s, hsi⟩ := hobt
            have hgb := getR_bod hsi
            have hG2 := hGt i
            rw [hgb.1, hgb.2] at hG2
            refine W_region ?_
            refine WR_val rfl (rn_load rfl (Ld.rowA (k := 512) hr5 (by kernel_rfl) (by kernel_rfl) (by first | (simp; done) | (simp [bv_length, *]; done) | assumption))) ?_
            refine WR_val rfl (rn_move) ?_
            refine WR_ent rfl (rn_call (by kernel_rfl) rfl) (hG2 w86) ?_
            rintro _ w97 ⟨⟨qx, cx, rfl, hqx⟩, hb97⟩
            replace hr5 := hr5.new hb97
            replace hr7 := hr7.new hb97
            replace hB := hB.acc hb97
            refine WR_val rfl (rn_move) ?_
            refine WR_val rfl (rn_extract rfl rfl) ?_
            refine WR_val rfl (rn_extract rfl rfl) ?_
            refine WR_val rfl (rn_assign) ?_
            refine WR_val rfl (rn_assign) ?_
            refine WR_nil ?_
            refine thenN ?_
            refine W_seq ?_
            refine W_region ?_
            refine WR_val rfl (rn_move) ?_
            refine WR_val rfl (rn_eql rfl rfl) ?_
            refine WR_nil ?_
            refine thenN ?_
            refine W_ifp rfl (fun hf6 => ?_) (fun hf6 => ?_)
            ·
              have hs0 : s = none := by cases s with | none => rfl | some r => simp at hf6
              subst hs0
              have hT2 := hTk i
              rw [takeP, hasV_of (mi_has hsi), if_pos rfl, if_pos rfl, Int.toNat_natCast, mi_none hV hsi] at hT2
              have hmi2 := hMl (i + 1)
              have hobt : ∃ Q1, bytesV (miV V i) = Q1 := ⟨_, rfl⟩
              obtain ⟨Q1, hQ1⟩ := hobt
              have hobt : ∃ Q2, bytesV (miV V (i + 1)) = Q2 := ⟨_, rfl⟩
              obtain ⟨Q2, hQ2⟩ := hobt
              rw [hQ1] at hT2 hmi hr7
              rw [hQ2] at hT2 hmi2
              refine W_region ?_
              refine WR_val rfl (rn_load rfl (Ld.rowA (k := 512) hr7 (by kernel_rfl) (by kernel_rfl) (by first | (simp; done) | (simp [bv_length, *]; done) | assumption))) ?_
              refine WR_val rfl (rn_move) ?_
              refine WR_ent rfl (rn_call (by kernel_rfl) rfl) (hT2 w97) ?_
              rintro _ w105 ⟨rfl, hb105⟩
              replace hr5 := hr5.new hb105
              replace hr7 := hr7.new hb105
              replace hB := hB.acc hb105
              refine WR_val rfl (rn_move) ?_
              refine WR_val rfl (rn_extract rfl rfl) ?_
              refine WR_val rfl (rn_extract rfl rfl) ?_
              refine WR_sk rfl (sk_storeA 512 (bv Q2) rfl rfl hr7 (by kernel_rfl) (by first | assumption | (simp; done) | (simp [bv_length, *]; done)) (by first | assumption | (simp; done) | (simp [bv_length, *]; done) | rfl) (by first | exact bv_one _ | assumption | (simp [Value.oneCell']; done)) (fun w905 hr7 ho905 => ?_))
              replace hr5 := hr5.only ho905 (Nat.ne_of_lt lt_g5_g7)
              replace hB := ho905.below hB ge_hB_g7
              refine WR_val rfl (rn_assign) ?_
              refine WR_nil ?_
              refine blockN ?_
              refine thenN ?_
              refine W_region ?_
              refine WR_val rfl (rn_move) ?_
              refine WR_val rfl (rn_add rfl rfl (Coup.w64 (by omega))) ?_
              refine WR_val rfl (rn_assign) ?_
              refine WR_nil ?_
              refine loopN ⟨i + 1, by omega, ⟨by go_num, rfl, rfl, rfl, rfl⟩, by omega, hr5, by rw [hQ2]; exact hr7, hB⟩
            ·
              have hs1 : ∃ r, s = some r := by cases s with | none => simp at hf6 | some r => exact ⟨r, rfl⟩
              obtain ⟨r, rfl⟩ := hs1
              rw [mi_some hsi] at hr7
              refine W_skip ?_
              refine blockN ?_
              refine thenN ?_
              refine W_region ?_
              refine WR_val rfl (rn_move) ?_
              refine WR_val rfl (rn_add rfl rfl (Coup.w64 (by omega))) ?_
              refine WR_val rfl (rn_assign) ?_
              refine WR_nil ?_
              refine loopN ⟨i + 1, by omega, ⟨by go_num, rfl, rfl, rfl, rfl⟩, by omega, hr5, hr7, hB⟩
          ·
            obtain rfl : i = V.slots.length := by omega
            have hob1 : ∃ Q1, bytesV (miV V V.slots.length) = Q1 := ⟨_, rfl⟩
            obtain ⟨Q1, hQ1⟩ := hob1
            rw [hQ1] at hr7 hmi hLk
            refine WR_no rfl rfl ?_
            refine WR_no rfl rfl ?_
            refine WR_val rfl (rn_pick_f rfl) ?_
            refine WR_nil ?_
            refine thenN ?_
            refine W_f rfl ?_
            refine W_exit ?_
            refine thenX ?_
            refine loopX ?_
            refine blockX ?_
            refine thenN ?_
            refine W_seq ?_
            refine W_seq ?_
            refine W_region ?_
            refine WR_val rfl (rn_move) ?_
            refine WR_val rfl (rn_neq rfl rfl) ?_
            refine WR_nil ?_
            refine thenN ?_
            refine W_fp rfl ((by simp)) ?_
            refine W_skip ?_
            refine thenN ?_
            refine W_seq ?_
            refine W_draw' [g7] (by kernel_rfl) ?_
            intro w906 hb906 hS906
            replace hr5 := hr5.new hb906
            replace hr7 := hr7.new hb906
            replace hB := hB.acc hb906
            have hr5_d906 := hr5
            have hr7_d906 := hr7
            have hB_d906 := hB
            refine WA_take 1 (by kernel_rfl) rfl (fun w' hS' => rn_load rfl (Ld.rowA (k := 512) (hr5_d906.kpd hS' (by first | (simp; done) | (simp; omega) | (simp [*]; done))) (by kernel_rfl) (by kernel_rfl) (by first | (simp; done) | (simp [bv_length, *]; done) | assumption))) ?_
            refine WA_two 0 2 (by kernel_rfl) ?_ ?_
            ·
              refine WO_val rfl rfl (rn_load rfl (Ld.rowA (k := 512) hr7 (by kernel_rfl) (by kernel_rfl) (by first | (simp; done) | (simp [bv_length, *]; done) | assumption))) hS906 ?_
              refine WA_one 2 (by kernel_rfl) ?_
              refine WO_ent rfl rfl (rn_call (by kernel_rfl) rfl) (hNx w906) ?_
              rintro _ w113 ⟨rfl, hb113⟩
              have hS908 := hS906.add0 hb113
              refine ⟨hS908, ?_⟩
              replace hr5 := hr5.new hb113
              replace hr7 := hr7.new hb113
              replace hB := hB.acc hb113
              refine WA_one 3 (by kernel_rfl) ?_
              refine WO_ent rfl rfl (rn_call (by kernel_rfl) rfl) (hLk w113) ?_
              rintro _ w114 ⟨rfl, hb114⟩
              have hS909 := hS908.add0 hb114
              refine ⟨hS909, ?_⟩
              replace hr5 := hr5.new hb114
              replace hr7 := hr7.new hb114
              replace hB := hB.acc hb114
              refine WA_take 4 (by kernel_rfl) rfl (fun _ _ => rn_move) ?_
              refine WA_take 5 (by kernel_rfl) rfl (fun _ _ => rn_extract rfl rfl) ?_
              refine WA_take 6 (by kernel_rfl) rfl (fun _ _ => rn_extract rfl rfl) ?_
              refine WA_one 7 (by kernel_rfl) ?_
              refine WO_sk rfl rfl (sk_storeA 512 (bv Q) rfl rfl hr7 (by kernel_rfl) (by first | assumption | (simp; done) | (simp [bv_length, *]; done)) (by first | assumption | (simp; done) | (simp [bv_length, *]; done) | rfl) (by first | exact bv_one _ | assumption | (simp [Value.oneCell']; done)) (fun w911 hr7 ho911 => ?_))
              have hS910 := hS909.add1 ho911 (by first | (left; omega) | (right; simp; done) | (right; simp; omega))
              refine ⟨hS910, ?_⟩
              replace hr5 := hr5.only ho911 (Nat.ne_of_lt lt_g5_g7)
              replace hB := ho911.below hB ge_hB_g7
              refine WA_take 8 (by kernel_rfl) rfl (fun _ _ => rn_assign) ?_
              refine WA_done (by kernel_rfl) ?_
              refine thenN ?_
              refine W_seq ?_
              refine W_region ?_
              refine WR_val rfl (rn_move) ?_
              refine WR_val rfl (rn_eql rfl rfl) ?_
              refine WR_val rfl (rn_move) ?_
              refine WR_tp 119 rfl (rfl) ?_
              refine WR_yes rfl ?_
              refine WR_val rfl (rn_load rfl (Ld.rowA (k := 512) hr7 (by kernel_rfl) (by kernel_rfl) (by first | (simp; done) | (simp [bv_length, *]; done) | assumption))) ?_
              refine WR_yes rfl ?_
              refine WR_val rfl (rn_load rfl (Ld.rowA (k := 512) hr5 (by kernel_rfl) (by kernel_rfl) (by first | (simp; done) | (simp [bv_length, *]; done) | assumption))) ?_
              refine WR_yes rfl ?_
              refine WR_val rfl (rn_eqlA (n := 512) (by kernel_rfl) rfl rfl hbq hbq) ?_
              refine WR_val rfl (rn_pick_t rfl) ?_
              refine WR_val rfl (rn_move) ?_
              refine WR_tp 124 rfl ((by simp)) ?_
              refine WR_yes rfl ?_
              refine WR_ent rfl (rn_call (by kernel_rfl) rfl) (known13 w911) ?_
              rintro _ w125 ⟨rfl, hb125⟩
              replace hr5 := hr5.new hb125
              replace hr7 := hr7.new hb125
              replace hB := hB.acc hb125
              refine WR_val rfl (rn_pick_t rfl) ?_
              refine WR_val rfl (rn_assign) ?_
              refine WR_nil ?_
              refine thenN ?_
              refine W_ret ?_
              refine ret_ret [_] ⟨rfl, trivial⟩ ?_
              exact ⟨rfl, hB⟩
            ·
              refine WO_ent rfl rfl (rn_call (by kernel_rfl) rfl) (hNx w906) ?_
              rintro _ w113 ⟨rfl, hb113⟩
              have hS912 := hS906.add0 hb113
              refine ⟨hS912, ?_⟩
              replace hr5 := hr5.new hb113
              replace hr7 := hr7.new hb113
              replace hB := hB.acc hb113
              refine WA_one 0 (by kernel_rfl) ?_
              refine WO_val rfl rfl (rn_load rfl (Ld.rowA (k := 512) hr7 (by kernel_rfl) (by kernel_rfl) (by first | (simp; done) | (simp [bv_length, *]; done) | assumption))) hS912 ?_
              refine WA_one 3 (by kernel_rfl) ?_
              refine WO_ent rfl rfl (rn_call (by kernel_rfl) rfl) (hLk w113) ?_
              rintro _ w114 ⟨rfl, hb114⟩
              have hS914 := hS912.add0 hb114
              refine ⟨hS914, ?_⟩
              replace hr5 := hr5.new hb114
              replace hr7 := hr7.new hb114
              replace hB := hB.acc hb114
              refine WA_take 4 (by kernel_rfl) rfl (fun _ _ => rn_move) ?_
              refine WA_take 5 (by kernel_rfl) rfl (fun _ _ => rn_extract rfl rfl) ?_
              refine WA_take 6 (by kernel_rfl) rfl (fun _ _ => rn_extract rfl rfl) ?_
              refine WA_one 7 (by kernel_rfl) ?_
              refine WO_sk rfl rfl (sk_storeA 512 (bv Q) rfl rfl hr7 (by kernel_rfl) (by first | assumption | (simp; done) | (simp [bv_length, *]; done)) (by first | assumption | (simp; done) | (simp [bv_length, *]; done) | rfl) (by first | exact bv_one _ | assumption | (simp [Value.oneCell']; done)) (fun w916 hr7 ho916 => ?_))
              have hS915 := hS914.add1 ho916 (by first | (left; omega) | (right; simp; done) | (right; simp; omega))
              refine ⟨hS915, ?_⟩
              replace hr5 := hr5.only ho916 (Nat.ne_of_lt lt_g5_g7)
              replace hB := ho916.below hB ge_hB_g7
              refine WA_take 8 (by kernel_rfl) rfl (fun _ _ => rn_assign) ?_
              refine WA_done (by kernel_rfl) ?_
              refine thenN ?_
              refine W_seq ?_
              refine W_region ?_
              refine WR_val rfl (rn_move) ?_
              refine WR_val rfl (rn_eql rfl rfl) ?_
              refine WR_val rfl (rn_move) ?_
              refine WR_tp 119 rfl (rfl) ?_
              refine WR_yes rfl ?_
              refine WR_val rfl (rn_load rfl (Ld.rowA (k := 512) hr7 (by kernel_rfl) (by kernel_rfl) (by first | (simp; done) | (simp [bv_length, *]; done) | assumption))) ?_
              refine WR_yes rfl ?_
              refine WR_val rfl (rn_load rfl (Ld.rowA (k := 512) hr5 (by kernel_rfl) (by kernel_rfl) (by first | (simp; done) | (simp [bv_length, *]; done) | assumption))) ?_
              refine WR_yes rfl ?_
              refine WR_val rfl (rn_eqlA (n := 512) (by kernel_rfl) rfl rfl hbq hbq) ?_
              refine WR_val rfl (rn_pick_t rfl) ?_
              refine WR_val rfl (rn_move) ?_
              refine WR_tp 124 rfl ((by simp)) ?_
              refine WR_yes rfl ?_
              refine WR_ent rfl (rn_call (by kernel_rfl) rfl) (known13 w916) ?_
              rintro _ w125 ⟨rfl, hb125⟩
              replace hr5 := hr5.new hb125
              replace hr7 := hr7.new hb125
              replace hB := hB.acc hb125
              refine WR_val rfl (rn_pick_t rfl) ?_
              refine WR_val rfl (rn_assign) ?_
              refine WR_nil ?_
              refine thenN ?_
              refine W_ret ?_
              refine ret_ret [_] ⟨rfl, trivial⟩ ?_
              exact ⟨rfl, hB⟩
end Go.Proofs.Ytjdcopfnhkfimaa
