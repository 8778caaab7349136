/- Pages at their bounds, walked. -/
import Derived.Test.YtjdcopfnhkfimaaPageZa
namespace Go.Proofs.Ytjdcopfnhkfimaa
open Go Go.RowKit Coup

def xV : View := withV tV 60 (zB 0)
theorem good_xV : Good xV := by
  have h := good_lay good_tV f7.2.1
  rw [f7.2.2] at h
  exact h
def jV : View := { eV 0 with next := 2147483647 }
theorem good_jV : Good jV := (eV_good (by omega)).link (by omega)
set_option maxHeartbeats 4000000 in
theorem boundsC (w : World) : Calls Try.prog 3 [].toArray w (Ret fun v w' => v = .bool true ∧ Below w.heap.size w w') := by
  have hB := Below.refl w.heap.size w
  have hml : maxLen = 9223372036854775807 := by decide
  have g0 := eV_good (n := 0) (by omega)
  have hN : ∀ w', Calls Try.prog 7 [.int .i64 4].toArray w' (Ret fun v w2 => v = .tuple #[.agg (bv (bytesV (eV 0))).toArray, .int .i64 0] ∧ Below w'.heap.size w' w2) := fun w' => new7g 4 w' (by omega)
  have hA : ∀ pr cr w', SlAt w' pr 400 1 (bv (zB 400)) → Calls Try.prog 8 [.agg (bv (bytesV (eV 0))).toArray, .slice pr 400 cr].toArray w' (Ret fun v w2 => v = .tuple #[.agg (bv (bytesV aV)).toArray, .int .i64 (0 : Nat), .int .i64 0] ∧ Below w'.heap.size w' w2) := fun pr cr w' h => layOk g0 f1 (eV_free 0) rfl pr cr w' h
  have hBb : ∀ pr cr w', SlAt w' pr 92 1 (bv (zB 92)) → Calls Try.prog 8 [.agg (bv (bytesV aV)).toArray, .slice pr 92 cr].toArray w' (Ret fun v w2 => v = .tuple #[.agg (bv (bytesV bV)).toArray, .int .i64 (1 : Nat), .int .i64 0] ∧ Below w'.heap.size w' w2) := fun pr cr w' h => layOk good_aV f2.1 f2.2 rfl pr cr w' h
  have hH := fun w' => layNo good_bV f3 none 0 w' (SlAt.nil _ _ _)
  have hI := fun pr cr w' h => layNo good_aV f4 pr cr w' h
  have hJ : ∀ w', Calls Try.prog 9 [.agg (bv (bytesV (eV 0))).toArray, .int .i64 2147483647].toArray w' (Ret fun v w2 => v = .tuple #[.agg (bv (bytesV jV)).toArray, .int .i64 0] ∧ Below w'.heap.size w' w2) := fun w' => link9a (eV 0) 2147483647 w' g0 (by omega)
  have hK := fun w' => link9b (eV 0) 2147483648 w' g0 (by omega)
  have hRb := fun w' => room10 bV w' good_bV
  have hRa := fun w' => room10 aV w' good_aV
  rw [f5.1] at hRb
  rw [f5.2] at hRa
  have hE : ∀ n, n < 125 → ∀ w', Calls Try.prog 8 [.agg (bv (bytesV (eV n))).toArray, .slice none 0 0].toArray w' (Ret fun v w2 => v = .tuple #[.agg (bv (bytesV (eV (n + 1)))).toArray, .int .i64 (n : Nat), .int .i64 0] ∧ Below w'.heap.size w' w2) := fun n hn w' => layOk (m := 0) (eV_good (by omega)) (eV_lay hn) (eV_free n) (eV_next n) none 0 w' (SlAt.nil _ _ _)
  have hL := fun w' => layNo (eV_good (n := 125) (by omega)) f6.1 none 0 w' (SlAt.nil _ _ _)
  have hT : ∀ w', Calls Try.prog 11 [.agg (bv (bytesV (eV 125))).toArray, .int .i64 60].toArray w' (Ret fun v w2 => v = .tuple #[.agg (bv (bytesV tV)).toArray, .int .i64 0] ∧ Below w'.heap.size w' w2) := fun w' => by
    have h1 := take11 (eV 125) 60 w' (eV_good (by omega))
    rw [takeP, f6.2.2.2, if_pos rfl, if_pos rfl] at h1
    exact h1
  have hX : ∀ w', Calls Try.prog 8 [.agg (bv (bytesV tV)).toArray, .slice none 0 0].toArray w' (Ret fun v w2 => v = .tuple #[.agg (bv (bytesV xV)).toArray, .int .i64 (60 : Nat), .int .i64 0] ∧ Below w'.heap.size w' w2) := fun w' => layOk good_tV f7.2.1 f7.2.2 rfl none 0 w' (SlAt.nil _ _ _)
  have hR5 := fun w' => room10 (eV 125) w' (eV_good (by omega))
  have hS5 := fun w' => slots12 (eV 125) w' (eV_good (by omega))
  have hRt := fun w' => room10 tV w' good_tV
  rw [f6.2.1] at hR5
  rw [f6.2.2.1] at hS5
  rw [f7.1] at hRt
  have hEl : ∀ n, n ≤ 125 → (bv (bytesV (eV n))).length = 512 := fun n h => bytes_len (eV_good h)
  have lA := bytes_len good_aV
  have lB := bytes_len good_bV
  have lJ := bytes_len good_jV
  have lT := bytes_len good_tV
  have lX := bytes_len good_xV
  have l0 := hEl 0 (by omega)
  generalize bytesV aV = QA at hA hBb hI hRa lA
  generalize bytesV bV = QB at hBb hH hRb lB
  generalize bytesV jV = QJ at hJ lJ
  generalize bytesV tV = QT at hT hX hRt lT
  generalize bytesV xV = QX at hX lX
  obtain ⟨Z, hzz, hzb, hzl⟩ := zeroQ
  rw [hzz] at hH hI hK hL
  obtain ⟨Q0, hQ0⟩ : ∃ Q0, bytesV (eV 0) = Q0 := ⟨_, rfl⟩
  rw [hQ0] at hN hA hJ hK l0
  refine calls_W (fn := Try.f3) (rs := [.tmp 0]) (n := 175) Try.func3 rfl rfl Try.ntmps3 (by kernel_rfl) rfl ?_
  refine W_seq ?_
  refine W_region ?_
  refine WR_val rfl (rn_assign) ?_
  refine WR_nil ?_
  refine thenN ?_
  refine W_seq ?_
  refine W_region ?_
  refine WR_ent rfl (rn_call (by kernel_rfl) rfl) (hN w) ?_
  rintro _ w32 ⟨rfl, hb32⟩
  replace hB := hB.acc hb32
  refine WR_val rfl (rn_move) ?_
  refine WR_val rfl (rn_extract rfl rfl) ?_
  refine WR_val rfl (rn_extract rfl rfl) ?_
  refine WR_mk rfl (mk_alloc (List.replicate 512 (Value.int .u8 0)) (by kernel_rfl) (fun g1 w1 hg1 hr1 hb1 => ?_))
  have ge_hB_g1 := Nat.le_trans hB.size hg1
  replace hB := hB.acc hb1
  rw [hzb] at hr1
  refine WR_sk rfl (sk_storeA 512 (bv Q0) rfl rfl hr1 (by kernel_rfl) (by first | assumption | (simp; done) | (simp [bv_length, *]; done)) (by first | assumption | (simp; done) | (simp [bv_length, *]; done) | rfl) (by first | exact bv_one _ | assumption | (simp [Value.oneCell']; done)) (fun w901 hr1 ho901 => ?_))
  replace hB := ho901.below hB ge_hB_g1
  refine WR_val rfl (rn_assign) ?_
  refine WR_nil ?_
  refine thenN ?_
  refine W_cut (fun g3 : Nat => [(1, .pointer (some ⟨g1, 0, none⟩)), (2, .int .i64 0), (3, .pointer (some ⟨g3, 0, none⟩)), (5, .int .i64 0)]) (fun g3 w' => row w' g1 (bv Q0) 23 ∧ row w' g3 (bv QA) 23 ∧ Below w.heap.size w w') ?_ ?_
  ·
    refine W_draw' [] (by kernel_rfl) ?_
    intro w902 hb902 hS902
    replace hr1 := hr1.new hb902
    replace hB := hB.acc hb902
    have hr1_d902 := hr1
    have hB_d902 := hB
    refine WA_take 0 (by kernel_rfl) rfl (fun w' hS' => rn_load rfl (Ld.rowA (k := 512) (hr1_d902.kpd hS' (by first | (simp; done) | (simp; omega) | (simp [*]; done))) (by kernel_rfl) (by kernel_rfl) (by first | (simp; done) | (simp [bv_length, *]; done) | assumption))) ?_
    refine WA_two 1 7 (by kernel_rfl) ?_ ?_
    ·
      refine WO_mk rfl rfl (mk_make (e := 5) 400 [.int .u8 0] 1 1 (.int .u8 0) (by kernel_rfl) (by kernel_rfl) ⟨_, rfl, rfl⟩ ⟨_, rfl, rfl⟩ (by simp) (by simp) (by omega) (by omega) (fun g37 w37 hg37 hr37 hb37 => ?_))
      have hS903 := hS902.add0 hb37
      refine ⟨hS903, ?_⟩
      have ge_hS902_g37 := Nat.le_trans hS902.size hg37
      have ge_hB_g37 := Nat.le_trans hB.size hg37
      have lt_g1_g37 : g1 < g37 := Nat.lt_of_lt_of_le hr1.lt hg37
      replace hr1 := hr1.new hb37
      replace hB := hB.acc hb37
      rw [zB_make] at hr37
      refine WA_two 2 7 (by kernel_rfl) ?_ ?_
      ·
        refine WO_ent rfl rfl (rn_call (by kernel_rfl) rfl) (hA _ _ w37 (hr37.slA (m := 400) (sz := 1) (by rw [bv_length, zB, List.length_replicate]) (by omega))) ?_
        rintro _ w38 ⟨rfl, hb38⟩
        have hS904 := hS903.add0 hb38
        refine ⟨hS904, ?_⟩
        replace hr1 := hr1.new hb38
        replace hr37 := hr37.new hb38
        replace hB := hB.acc hb38
        refine WA_take 3 (by kernel_rfl) rfl (fun _ _ => rn_move) ?_
        refine WA_take 4 (by kernel_rfl) rfl (fun _ _ => rn_extract rfl rfl) ?_
        refine WA_take 5 (by kernel_rfl) rfl (fun _ _ => rn_extract rfl rfl) ?_
        refine WA_take 6 (by kernel_rfl) rfl (fun _ _ => rn_extract rfl rfl) ?_
        refine WA_one 7 (by kernel_rfl) ?_
        refine WO_mk rfl rfl (mk_alloc (List.replicate 512 (Value.int .u8 0)) (by kernel_rfl) (fun g3 w3 hg3 hr3 hb3 => ?_))
        have hS905 := hS904.add0 hb3
        refine ⟨hS905, ?_⟩
        have ge_hS904_g3 := Nat.le_trans hS904.size hg3
        have ge_hB_g3 := Nat.le_trans hB.size hg3
        have lt_g1_g3 : g1 < g3 := Nat.lt_of_lt_of_le hr1.lt hg3
        have lt_g37_g3 : g37 < g3 := Nat.lt_of_lt_of_le hr37.lt hg3
        replace hr1 := hr1.new hb3
        replace hr37 := hr37.new hb3
        replace hB := hB.acc hb3
        rw [hzb] at hr3
        refine WA_one 8 (by kernel_rfl) ?_
        refine WO_sk rfl rfl (sk_storeA 512 (bv QA) rfl rfl hr3 (by kernel_rfl) (by first | assumption | (simp; done) | (simp [bv_length, *]; done)) (by first | assumption | (simp; done) | (simp [bv_length, *]; done) | rfl) (by first | exact bv_one _ | assumption | (simp [Value.oneCell']; done)) (fun w907 hr3 ho907 => ?_))
        have hS906 := hS905.add1 ho907 (by first | (left; omega) | (right; simp; done) | (right; simp; omega))
        refine ⟨hS906, ?_⟩
        replace hr1 := hr1.only ho907 (Nat.ne_of_lt lt_g1_g3)
        replace hr37 := hr37.only ho907 (Nat.ne_of_lt lt_g37_g3)
        replace hB := ho907.below hB ge_hB_g3
        refine WA_take 9 (by kernel_rfl) rfl (fun _ _ => rn_assign) ?_
        refine WA_take 10 (by kernel_rfl) rfl (fun _ _ => rn_assign) ?_
        refine WA_done (by kernel_rfl) ?_
        refine loopN ⟨g3, ⟨rfl, rfl, rfl, rfl, rfl⟩, hr1, hr3, hB⟩
      ·
        refine WO_mk rfl rfl (mk_alloc (List.replicate 512 (Value.int .u8 0)) (by kernel_rfl) (fun g3 w3 hg3 hr3 hb3 => ?_))
        have hS908 := hS903.add0 hb3
        refine ⟨hS908, ?_⟩
        have ge_hS903_g3 := Nat.le_trans hS903.size hg3
        have ge_hB_g3 := Nat.le_trans hB.size hg3
        have lt_g1_g3 : g1 < g3 := Nat.lt_of_lt_of_le hr1.lt hg3
        have lt_g37_g3 : g37 < g3 := Nat.lt_of_lt_of_le hr37.lt hg3
        replace hr1 := hr1.new hb3
        replace hr37 := hr37.new hb3
        replace hB := hB.acc hb3
        rw [hzb] at hr3
        refine WA_one 2 (by kernel_rfl) ?_
        refine WO_ent rfl rfl (rn_call (by kernel_rfl) rfl) (hA _ _ w3 (hr37.slA (m := 400) (sz := 1) (by rw [bv_length, zB, List.length_replicate]) (by omega))) ?_
        rintro _ w38 ⟨rfl, hb38⟩
        have hS909 := hS908.add0 hb38
        refine ⟨hS909, ?_⟩
        replace hr1 := hr1.new hb38
        replace hr37 := hr37.new hb38
        replace hr3 := hr3.new hb38
        replace hB := hB.acc hb38
        refine WA_take 3 (by kernel_rfl) rfl (fun _ _ => rn_move) ?_
        refine WA_take 4 (by kernel_rfl) rfl (fun _ _ => rn_extract rfl rfl) ?_
        refine WA_take 5 (by kernel_rfl) rfl (fun _ _ => rn_extract rfl rfl) ?_
        refine WA_take 6 (by kernel_rfl) rfl (fun _ _ => rn_extract rfl rfl) ?_
        refine WA_one 8 (by kernel_rfl) ?_
        refine WO_sk rfl rfl (sk_storeA 512 (bv QA) rfl rfl hr3 (by kernel_rfl) (by first | assumption | (simp; done) | (simp [bv_length, *]; done)) (by first | assumption | (simp; done) | (simp [bv_length, *]; done) | rfl) (by first | exact bv_one _ | assumption | (simp [Value.oneCell']; done)) (fun w911 hr3 ho911 => ?_))
        have hS910 := hS909.add1 ho911 (by first | (left; omega) | (right; simp; done) | (right; simp; omega))
        refine ⟨hS910, ?_⟩
        replace hr1 := hr1.only ho911 (Nat.ne_of_lt lt_g1_g3)
        replace hr37 := hr37.only ho911 (Nat.ne_of_lt lt_g37_g3)
        replace hB := ho911.below hB ge_hB_g3
        refine WA_take 9 (by kernel_rfl) rfl (fun _ _ => rn_assign) ?_
        refine WA_take 10 (by kernel_rfl) rfl (fun _ _ => rn_assign) ?_
        refine WA_done (by kernel_rfl) ?_
        refine loopN ⟨g3, ⟨rfl, rfl, rfl, rfl, rfl⟩, hr1, hr3, hB⟩
    ·
      refine WO_mk rfl rfl (mk_alloc (List.replicate 512 (Value.int .u8 0)) (by kernel_rfl) (fun g3 w3 hg3 hr3 hb3 => ?_))
      have hS912 := hS902.add0 hb3
      refine ⟨hS912, ?_⟩
      have ge_hS902_g3 := Nat.le_trans hS902.size hg3
      have ge_hB_g3 := Nat.le_trans hB.size hg3
      have lt_g1_g3 : g1 < g3 := Nat.lt_of_lt_of_le hr1.lt hg3
      replace hr1 := hr1.new hb3
      replace hB := hB.acc hb3
      rw [hzb] at hr3
      refine WA_one 1 (by kernel_rfl) ?_
      refine WO_mk rfl rfl (mk_make (e := 5) 400 [.int .u8 0] 1 1 (.int .u8 0) (by kernel_rfl) (by kernel_rfl) ⟨_, rfl, rfl⟩ ⟨_, rfl, rfl⟩ (by simp) (by simp) (by omega) (by omega) (fun g37 w37 hg37 hr37 hb37 => ?_))
      have hS913 := hS912.add0 hb37
      refine ⟨hS913, ?_⟩
      have ge_hS912_g37 := Nat.le_trans hS912.size hg37
      have ge_hB_g37 := Nat.le_trans hB.size hg37
      have lt_g1_g37 : g1 < g37 := Nat.lt_of_lt_of_le hr1.lt hg37
      have lt_g3_g37 : g3 < g37 := Nat.lt_of_lt_of_le hr3.lt hg37
      replace hr1 := hr1.new hb37
      replace hr3 := hr3.new hb37
      replace hB := hB.acc hb37
      rw [zB_make] at hr37
      refine WA_one 2 (by kernel_rfl) ?_
      refine WO_ent rfl rfl (rn_call (by kernel_rfl) rfl) (hA _ _ w37 (hr37.slA (m := 400) (sz := 1) (by rw [bv_length, zB, List.length_replicate]) (by omega))) ?_
      rintro _ w38 ⟨rfl, hb38⟩
      have hS914 := hS913.add0 hb38
      refine ⟨hS914, ?_⟩
      replace hr1 := hr1.new hb38
      replace hr3 := hr3.new hb38
      replace hr37 := hr37.new hb38
      replace hB := hB.acc hb38
      refine WA_take 3 (by kernel_rfl) rfl (fun _ _ => rn_move) ?_
      refine WA_take 4 (by kernel_rfl) rfl (fun _ _ => rn_extract rfl rfl) ?_
      refine WA_take 5 (by kernel_rfl) rfl (fun _ _ => rn_extract rfl rfl) ?_
      refine WA_take 6 (by kernel_rfl) rfl (fun _ _ => rn_extract rfl rfl) ?_
      refine WA_one 8 (by kernel_rfl) ?_
      refine WO_sk rfl rfl (sk_storeA 512 (bv QA) rfl rfl hr3 (by kernel_rfl) (by first | assumption | (simp; done) | (simp [bv_length, *]; done)) (by first | assumption | (simp; done) | (simp [bv_length, *]; done) | rfl) (by first | exact bv_one _ | assumption | (simp [Value.oneCell']; done)) (fun w916 hr3 ho916 => ?_))
      have hS915 := hS914.add1 ho916 (by first | (left; omega) | (right; simp; done) | (right; simp; omega))
      refine ⟨hS915, ?_⟩
      replace hr1 := hr1.only ho916 (Nat.ne_of_lt lt_g1_g3)
      replace hr37 := hr37.only ho916 (Nat.ne_of_gt lt_g3_g37)
      replace hB := ho916.below hB ge_hB_g3
      refine WA_take 9 (by kernel_rfl) rfl (fun _ _ => rn_assign) ?_
      refine WA_take 10 (by kernel_rfl) rfl (fun _ _ => rn_assign) ?_
      refine WA_done (by kernel_rfl) ?_
      refine loopN ⟨g3, ⟨rfl, rfl, rfl, rfl, rfl⟩, hr1, hr3, hB⟩
  ·
    rintro g3 f1 w1 ⟨hr1, hr3, hB⟩
    refine W_cut (fun g6 : Nat => [(1, .pointer (some ⟨g1, 0, none⟩)), (2, .int .i64 0), (3, .pointer (some ⟨g3, 0, none⟩)), (5, .int .i64 0), (6, .pointer (some ⟨g6, 0, none⟩)), (8, .int .i64 0)]) (fun g6 w' => row w' g1 (bv Q0) 23 ∧ row w' g3 (bv QA) 23 ∧ row w' g6 (bv QB) 23 ∧ Below w.heap.size w w') ?_ ?_
    ·
      refine W_draw' [] (by kernel_rfl) ?_
      intro w917 hb917 hS917
      replace hr1 := hr1.new hb917
      replace hr3 := hr3.new hb917
      replace hB := hB.acc hb917
      have hr1_d917 := hr1
      have hr3_d917 := hr3
      have hB_d917 := hB
      refine WA_take 0 (by kernel_rfl) rfl (fun w' hS' => rn_load rfl (Ld.rowA (k := 512) (hr3_d917.kpd hS' (by first | (simp; done) | (simp; omega) | (simp [*]; done))) (by kernel_rfl) (by kernel_rfl) (by first | (simp; done) | (simp [bv_length, *]; done) | assumption))) ?_
      refine WA_two 1 7 (by kernel_rfl) ?_ ?_
      ·
        refine WO_mk rfl rfl (mk_make (e := 5) 92 [.int .u8 0] 1 1 (.int .u8 0) (by kernel_rfl) (by kernel_rfl) ⟨_, rfl, rfl⟩ ⟨_, rfl, rfl⟩ (by simp) (by simp) (by omega) (by omega) (fun g44 w44 hg44 hr44 hb44 => ?_))
        have hS918 := hS917.add0 hb44
        refine ⟨hS918, ?_⟩
        have ge_hS917_g44 := Nat.le_trans hS917.size hg44
        have ge_hB_g44 := Nat.le_trans hB.size hg44
        have lt_g1_g44 : g1 < g44 := Nat.lt_of_lt_of_le hr1.lt hg44
        have lt_g3_g44 : g3 < g44 := Nat.lt_of_lt_of_le hr3.lt hg44
        replace hr1 := hr1.new hb44
        replace hr3 := hr3.new hb44
        replace hB := hB.acc hb44
        rw [zB_make] at hr44
        refine WA_two 2 7 (by kernel_rfl) ?_ ?_
        ·
          refine WO_ent rfl rfl (rn_call (by kernel_rfl) rfl) (hBb _ _ w44 (hr44.slA (m := 92) (sz := 1) (by rw [bv_length, zB, List.length_replicate]) (by omega))) ?_
          rintro _ w45 ⟨rfl, hb45⟩
          have hS919 := hS918.add0 hb45
          refine ⟨hS919, ?_⟩
          replace hr1 := hr1.new hb45
          replace hr3 := hr3.new hb45
          replace hr44 := hr44.new hb45
          replace hB := hB.acc hb45
          refine WA_take 3 (by kernel_rfl) rfl (fun _ _ => rn_move) ?_
          refine WA_take 4 (by kernel_rfl) rfl (fun _ _ => rn_extract rfl rfl) ?_
          refine WA_take 5 (by kernel_rfl) rfl (fun _ _ => rn_extract rfl rfl) ?_
          refine WA_take 6 (by kernel_rfl) rfl (fun _ _ => rn_extract rfl rfl) ?_
          refine WA_one 7 (by kernel_rfl) ?_
          refine WO_mk rfl rfl (mk_alloc (List.replicate 512 (Value.int .u8 0)) (by kernel_rfl) (fun g6 w6 hg6 hr6 hb6 => ?_))
          have hS920 := hS919.add0 hb6
          refine ⟨hS920, ?_⟩
          have ge_hS919_g6 := Nat.le_trans hS919.size hg6
          have ge_hB_g6 := Nat.le_trans hB.size hg6
          have lt_g1_g6 : g1 < g6 := Nat.lt_of_lt_of_le hr1.lt hg6
          have lt_g3_g6 : g3 < g6 := Nat.lt_of_lt_of_le hr3.lt hg6
          have lt_g44_g6 : g44 < g6 := Nat.lt_of_lt_of_le hr44.lt hg6
          replace hr1 := hr1.new hb6
          replace hr3 := hr3.new hb6
          replace hr44 := hr44.new hb6
          replace hB := hB.acc hb6
          rw [hzb] at hr6
          refine WA_one 8 (by kernel_rfl) ?_
          refine WO_sk rfl rfl (sk_storeA 512 (bv QB) rfl rfl hr6 (by kernel_rfl) (by first | assumption | (simp; done) | (simp [bv_length, *]; done)) (by first | assumption | (simp; done) | (simp [bv_length, *]; done) | rfl) (by first | exact bv_one _ | assumption | (simp [Value.oneCell']; done)) (fun w922 hr6 ho922 => ?_))
          have hS921 := hS920.add1 ho922 (by first | (left; omega) | (right; simp; done) | (right; simp; omega))
          refine ⟨hS921, ?_⟩
          replace hr1 := hr1.only ho922 (Nat.ne_of_lt lt_g1_g6)
          replace hr3 := hr3.only ho922 (Nat.ne_of_lt lt_g3_g6)
          replace hr44 := hr44.only ho922 (Nat.ne_of_lt lt_g44_g6)
          replace hB := ho922.below hB ge_hB_g6
          refine WA_take 9 (by kernel_rfl) rfl (fun _ _ => rn_assign) ?_
          refine WA_take 10 (by kernel_rfl) rfl (fun _ _ => rn_assign) ?_
          refine WA_done (by kernel_rfl) ?_
          refine loopN ⟨g6, ⟨rfl, rfl, rfl, rfl, rfl, rfl, rfl⟩, hr1, hr3, hr6, hB⟩
        ·
          refine WO_mk rfl rfl (mk_alloc (List.replicate 512 (Value.int .u8 0)) (by kernel_rfl) (fun g6 w6 hg6 hr6 hb6 => ?_))
          have hS923 := hS918.add0 hb6
          refine ⟨hS923, ?_⟩
          have ge_hS918_g6 := Nat.le_trans hS918.size hg6
          have ge_hB_g6 := Nat.le_trans hB.size hg6
          have lt_g1_g6 : g1 < g6 := Nat.lt_of_lt_of_le hr1.lt hg6
          have lt_g3_g6 : g3 < g6 := Nat.lt_of_lt_of_le hr3.lt hg6
          have lt_g44_g6 : g44 < g6 := Nat.lt_of_lt_of_le hr44.lt hg6
          replace hr1 := hr1.new hb6
          replace hr3 := hr3.new hb6
          replace hr44 := hr44.new hb6
          replace hB := hB.acc hb6
          rw [hzb] at hr6
          refine WA_one 2 (by kernel_rfl) ?_
          refine WO_ent rfl rfl (rn_call (by kernel_rfl) rfl) (hBb _ _ w6 (hr44.slA (m := 92) (sz := 1) (by rw [bv_length, zB, List.length_replicate]) (by omega))) ?_
          rintro _ w45 ⟨rfl, hb45⟩
          have hS924 := hS923.add0 hb45
          refine ⟨hS924, ?_⟩
          replace hr1 := hr1.new hb45
          replace hr3 := hr3.new hb45
          replace hr44 := hr44.new hb45
          replace hr6 := hr6.new hb45
          replace hB := hB.acc hb45
          refine WA_take 3 (by kernel_rfl) rfl (fun _ _ => rn_move) ?_
          refine WA_take 4 (by kernel_rfl) rfl (fun _ _ => rn_extract rfl rfl) ?_
          refine WA_take 5 (by kernel_rfl) rfl (fun _ _ => rn_extract rfl rfl) ?_
          refine WA_take 6 (by kernel_rfl) rfl (fun _ _ => rn_extract rfl rfl) ?_
          refine WA_one 8 (by kernel_rfl) ?_
          refine WO_sk rfl rfl (sk_storeA 512 (bv QB) rfl rfl hr6 (by kernel_rfl) (by first | assumption | (simp; done) | (simp [bv_length, *]; done)) (by first | assumption | (simp; done) | (simp [bv_length, *]; done) | rfl) (by first | exact bv_one _ | assumption | (simp [Value.oneCell']; done)) (fun w926 hr6 ho926 => ?_))
          have hS925 := hS924.add1 ho926 (by first | (left; omega) | (right; simp; done) | (right; simp; omega))
          refine ⟨hS925, ?_⟩
          replace hr1 := hr1.only ho926 (Nat.ne_of_lt lt_g1_g6)
          replace hr3 := hr3.only ho926 (Nat.ne_of_lt lt_g3_g6)
          replace hr44 := hr44.only ho926 (Nat.ne_of_lt lt_g44_g6)
          replace hB := ho926.below hB ge_hB_g6
          refine WA_take 9 (by kernel_rfl) rfl (fun _ _ => rn_assign) ?_
          refine WA_take 10 (by kernel_rfl) rfl (fun _ _ => rn_assign) ?_
          refine WA_done (by kernel_rfl) ?_
          refine loopN ⟨g6, ⟨rfl, rfl, rfl, rfl, rfl, rfl, rfl⟩, hr1, hr3, hr6, hB⟩
      ·
        refine WO_mk rfl rfl (mk_alloc (List.replicate 512 (Value.int .u8 0)) (by kernel_rfl) (fun g6 w6 hg6 hr6 hb6 => ?_))
        have hS927 := hS917.add0 hb6
        refine ⟨hS927, ?_⟩
        have ge_hS917_g6 := Nat.le_trans hS917.size hg6
        have ge_hB_g6 := Nat.le_trans hB.size hg6
        have lt_g1_g6 : g1 < g6 := Nat.lt_of_lt_of_le hr1.lt hg6
        have lt_g3_g6 : g3 < g6 := Nat.lt_of_lt_of_le hr3.lt hg6
        replace hr1 := hr1.new hb6
        replace hr3 := hr3.new hb6
        replace hB := hB.acc hb6
        rw [hzb] at hr6
        refine WA_one 1 (by kernel_rfl) ?_
        refine WO_mk rfl rfl (mk_make (e := 5) 92 [.int .u8 0] 1 1 (.int .u8 0) (by kernel_rfl) (by kernel_rfl) ⟨_, rfl, rfl⟩ ⟨_, rfl, rfl⟩ (by simp) (by simp) (by omega) (by omega) (fun g44 w44 hg44 hr44 hb44 => ?_))
        have hS928 := hS927.add0 hb44
        refine ⟨hS928, ?_⟩
        have ge_hS927_g44 := Nat.le_trans hS927.size hg44
        have ge_hB_g44 := Nat.le_trans hB.size hg44
        have lt_g1_g44 : g1 < g44 := Nat.lt_of_lt_of_le hr1.lt hg44
        have lt_g3_g44 : g3 < g44 := Nat.lt_of_lt_of_le hr3.lt hg44
        have lt_g6_g44 : g6 < g44 := Nat.lt_of_lt_of_le hr6.lt hg44
        replace hr1 := hr1.new hb44
        replace hr3 := hr3.new hb44
        replace hr6 := hr6.new hb44
        replace hB := hB.acc hb44
        rw [zB_make] at hr44
        refine WA_one 2 (by kernel_rfl) ?_
        refine WO_ent rfl rfl (rn_call (by kernel_rfl) rfl) (hBb _ _ w44 (hr44.slA (m := 92) (sz := 1) (by rw [bv_length, zB, List.length_replicate]) (by omega))) ?_
        rintro _ w45 ⟨rfl, hb45⟩
        have hS929 := hS928.add0 hb45
        refine ⟨hS929, ?_⟩
        replace hr1 := hr1.new hb45
        replace hr3 := hr3.new hb45
        replace hr6 := hr6.new hb45
        replace hr44 := hr44.new hb45
        replace hB := hB.acc hb45
        refine WA_take 3 (by kernel_rfl) rfl (fun _ _ => rn_move) ?_
        refine WA_take 4 (by kernel_rfl) rfl (fun _ _ => rn_extract rfl rfl) ?_
        refine WA_take 5 (by kernel_rfl) rfl (fun _ _ => rn_extract rfl rfl) ?_
        refine WA_take 6 (by kernel_rfl) rfl (fun _ _ => rn_extract rfl rfl) ?_
        refine WA_one 8 (by kernel_rfl) ?_
        refine WO_sk rfl rfl (sk_storeA 512 (bv QB) rfl rfl hr6 (by kernel_rfl) (by first | assumption | (simp; done) | (simp [bv_length, *]; done)) (by first | assumption | (simp; done) | (simp [bv_length, *]; done) | rfl) (by first | exact bv_one _ | assumption | (simp [Value.oneCell']; done)) (fun w931 hr6 ho931 => ?_))
        have hS930 := hS929.add1 ho931 (by first | (left; omega) | (right; simp; done) | (right; simp; omega))
        refine ⟨hS930, ?_⟩
        replace hr1 := hr1.only ho931 (Nat.ne_of_lt lt_g1_g6)
        replace hr3 := hr3.only ho931 (Nat.ne_of_lt lt_g3_g6)
        replace hr44 := hr44.only ho931 (Nat.ne_of_gt lt_g6_g44)
        replace hB := ho931.below hB ge_hB_g6
        refine WA_take 9 (by kernel_rfl) rfl (fun _ _ => rn_assign) ?_
        refine WA_take 10 (by kernel_rfl) rfl (fun _ _ => rn_assign) ?_
        refine WA_done (by kernel_rfl) ?_
        refine loopN ⟨g6, ⟨rfl, rfl, rfl, rfl, rfl, rfl, rfl⟩, hr1, hr3, hr6, hB⟩
    ·
      rintro g6 f2 w2 ⟨hr1, hr3, hr6, hB⟩
      refine W_seq ?_
      refine W_region ?_
      refine WR_val rfl (rn_load rfl (Ld.rowA (k := 512) hr6 (by kernel_rfl) (by kernel_rfl) (by first | (simp; done) | (simp [bv_length, *]; done) | assumption))) ?_
      refine WR_ent rfl (rn_call (by kernel_rfl) rfl) (hH w2) ?_
      rintro _ w51 ⟨rfl, hb51⟩
      replace hr1 := hr1.new hb51
      replace hr3 := hr3.new hb51
      replace hr6 := hr6.new hb51
      replace hB := hB.acc hb51
      refine WR_val rfl (rn_move) ?_
      refine WR_val rfl (rn_extract rfl rfl) ?_
      refine WR_val rfl (rn_extract rfl rfl) ?_
      refine WR_val rfl (rn_extract rfl rfl) ?_
      refine WR_mk rfl (mk_alloc (List.replicate 512 (Value.int .u8 0)) (by kernel_rfl) (fun g9 w9 hg9 hr9 hb9 => ?_))
      have ge_hB_g9 := Nat.le_trans hB.size hg9
      have lt_g1_g9 : g1 < g9 := Nat.lt_of_lt_of_le hr1.lt hg9
      have lt_g3_g9 : g3 < g9 := Nat.lt_of_lt_of_le hr3.lt hg9
      have lt_g6_g9 : g6 < g9 := Nat.lt_of_lt_of_le hr6.lt hg9
      replace hr1 := hr1.new hb9
      replace hr3 := hr3.new hb9
      replace hr6 := hr6.new hb9
      replace hB := hB.acc hb9
      rw [hzb] at hr9
      refine WR_sk rfl (sk_storeA 512 (bv Z) rfl rfl hr9 (by kernel_rfl) (by first | assumption | (simp; done) | (simp [bv_length, *]; done)) (by first | assumption | (simp; done) | (simp [bv_length, *]; done) | rfl) (by first | exact bv_one _ | assumption | (simp [Value.oneCell']; done)) (fun w932 hr9 ho932 => ?_))
      replace hr1 := hr1.only ho932 (Nat.ne_of_lt lt_g1_g9)
      replace hr3 := hr3.only ho932 (Nat.ne_of_lt lt_g3_g9)
      replace hr6 := hr6.only ho932 (Nat.ne_of_lt lt_g6_g9)
      replace hB := ho932.below hB ge_hB_g9
      refine WR_val rfl (rn_assign) ?_
      refine WR_val rfl (rn_assign) ?_
      refine WR_nil ?_
      refine thenN ?_
      refine W_cut (fun _ : Unit => [(1, .pointer (some ⟨g1, 0, none⟩)), (2, .int .i64 0), (3, .pointer (some ⟨g3, 0, none⟩)), (5, .int .i64 0), (6, .pointer (some ⟨g6, 0, none⟩)), (8, .int .i64 0), (11, .int .i64 8), (14, .int .i64 8)]) (fun _ w' => row w' g1 (bv Q0) 23 ∧ row w' g3 (bv QA) 23 ∧ row w' g6 (bv QB) 23 ∧ Below w.heap.size w w') ?_ ?_
      ·
        refine W_draw' [] (by kernel_rfl) ?_
        intro w933 hb933 hS933
        replace hr1 := hr1.new hb933
        replace hr3 := hr3.new hb933
        replace hr6 := hr6.new hb933
        replace hr9 := hr9.new hb933
        replace hB := hB.acc hb933
        have hr1_d933 := hr1
        have hr3_d933 := hr3
        have hr6_d933 := hr6
        have hr9_d933 := hr9
        have hB_d933 := hB
        refine WA_take 0 (by kernel_rfl) rfl (fun w' hS' => rn_load rfl (Ld.rowA (k := 512) (hr3_d933.kpd hS' (by first | (simp; done) | (simp; omega) | (simp [*]; done))) (by kernel_rfl) (by kernel_rfl) (by first | (simp; done) | (simp [bv_length, *]; done) | assumption))) ?_
        refine WA_two 1 7 (by kernel_rfl) ?_ ?_
        ·
          refine WO_mk rfl rfl (mk_make (e := 5) 93 [.int .u8 0] 1 1 (.int .u8 0) (by kernel_rfl) (by kernel_rfl) ⟨_, rfl, rfl⟩ ⟨_, rfl, rfl⟩ (by simp) (by simp) (by omega) (by omega) (fun g57 w57 hg57 hr57 hb57 => ?_))
          have hS934 := hS933.add0 hb57
          refine ⟨hS934, ?_⟩
          have ge_hS933_g57 := Nat.le_trans hS933.size hg57
          have ge_hB_g57 := Nat.le_trans hB.size hg57
          have lt_g1_g57 : g1 < g57 := Nat.lt_of_lt_of_le hr1.lt hg57
          have lt_g3_g57 : g3 < g57 := Nat.lt_of_lt_of_le hr3.lt hg57
          have lt_g6_g57 : g6 < g57 := Nat.lt_of_lt_of_le hr6.lt hg57
          have lt_g9_g57 : g9 < g57 := Nat.lt_of_lt_of_le hr9.lt hg57
          replace hr1 := hr1.new hb57
          replace hr3 := hr3.new hb57
          replace hr6 := hr6.new hb57
          replace hr9 := hr9.new hb57
          replace hB := hB.acc hb57
          rw [zB_make] at hr57
          refine WA_two 2 7 (by kernel_rfl) ?_ ?_
          ·
            refine WO_ent rfl rfl (rn_call (by kernel_rfl) rfl) (hI _ _ w57 (hr57.slA (m := 93) (sz := 1) (by rw [bv_length, zB, List.length_replicate]) (by omega))) ?_
            rintro _ w58 ⟨rfl, hb58⟩
            have hS935 := hS934.add0 hb58
            refine ⟨hS935, ?_⟩
            replace hr1 := hr1.new hb58
            replace hr3 := hr3.new hb58
            replace hr6 := hr6.new hb58
            replace hr9 := hr9.new hb58
            replace hr57 := hr57.new hb58
            replace hB := hB.acc hb58
            refine WA_take 3 (by kernel_rfl) rfl (fun _ _ => rn_move) ?_
            refine WA_take 4 (by kernel_rfl) rfl (fun _ _ => rn_extract rfl rfl) ?_
            refine WA_take 5 (by kernel_rfl) rfl (fun _ _ => rn_extract rfl rfl) ?_
            refine WA_take 6 (by kernel_rfl) rfl (fun _ _ => rn_extract rfl rfl) ?_
            refine WA_one 7 (by kernel_rfl) ?_
            refine WO_mk rfl rfl (mk_alloc (List.replicate 512 (Value.int .u8 0)) (by kernel_rfl) (fun g12 w12 hg12 hr12 hb12 => ?_))
            have hS936 := hS935.add0 hb12
            refine ⟨hS936, ?_⟩
            have ge_hS935_g12 := Nat.le_trans hS935.size hg12
            have ge_hB_g12 := Nat.le_trans hB.size hg12
            have lt_g1_g12 : g1 < g12 := Nat.lt_of_lt_of_le hr1.lt hg12
            have lt_g3_g12 : g3 < g12 := Nat.lt_of_lt_of_le hr3.lt hg12
            have lt_g6_g12 : g6 < g12 := Nat.lt_of_lt_of_le hr6.lt hg12
            have lt_g9_g12 : g9 < g12 := Nat.lt_of_lt_of_le hr9.lt hg12
            have lt_g57_g12 : g57 < g12 := Nat.lt_of_lt_of_le hr57.lt hg12
            replace hr1 := hr1.new hb12
            replace hr3 := hr3.new hb12
            replace hr6 := hr6.new hb12
            replace hr9 := hr9.new hb12
            replace hr57 := hr57.new hb12
            replace hB := hB.acc hb12
            rw [hzb] at hr12
            refine WA_one 8 (by kernel_rfl) ?_
            refine WO_sk rfl rfl (sk_storeA 512 (bv Z) rfl rfl hr12 (by kernel_rfl) (by first | assumption | (simp; done) | (simp [bv_length, *]; done)) (by first | assumption | (simp; done) | (simp [bv_length, *]; done) | rfl) (by first | exact bv_one _ | assumption | (simp [Value.oneCell']; done)) (fun w938 hr12 ho938 => ?_))
            have hS937 := hS936.add1 ho938 (by first | (left; omega) | (right; simp; done) | (right; simp; omega))
            refine ⟨hS937, ?_⟩
            replace hr1 := hr1.only ho938 (Nat.ne_of_lt lt_g1_g12)
            replace hr3 := hr3.only ho938 (Nat.ne_of_lt lt_g3_g12)
            replace hr6 := hr6.only ho938 (Nat.ne_of_lt lt_g6_g12)
            replace hr9 := hr9.only ho938 (Nat.ne_of_lt lt_g9_g12)
            replace hr57 := hr57.only ho938 (Nat.ne_of_lt lt_g57_g12)
            replace hB := ho938.below hB ge_hB_g12
            refine WA_take 9 (by kernel_rfl) rfl (fun _ _ => rn_assign) ?_
            refine WA_take 10 (by kernel_rfl) rfl (fun _ _ => rn_assign) ?_
            refine WA_done (by kernel_rfl) ?_
            refine loopN ⟨(), ⟨rfl, rfl, rfl, rfl, rfl, rfl, rfl, rfl, rfl⟩, hr1, hr3, hr6, hB⟩
          ·
            refine WO_mk rfl rfl (mk_alloc (List.replicate 512 (Value.int .u8 0)) (by kernel_rfl) (fun g12 w12 hg12 hr12 hb12 => ?_))
            have hS939 := hS934.add0 hb12
            refine ⟨hS939, ?_⟩
            have ge_hS934_g12 := Nat.le_trans hS934.size hg12
            have ge_hB_g12 := Nat.le_trans hB.size hg12
            have lt_g1_g12 : g1 < g12 := Nat.lt_of_lt_of_le hr1.lt hg12
            have lt_g3_g12 : g3 < g12 := Nat.lt_of_lt_of_le hr3.lt hg12
            have lt_g6_g12 : g6 < g12 := Nat.lt_of_lt_of_le hr6.lt hg12
            have lt_g9_g12 : g9 < g12 := Nat.lt_of_lt_of_le hr9.lt hg12
            have lt_g57_g12 : g57 < g12 := Nat.lt_of_lt_of_le hr57.lt hg12
            replace hr1 := hr1.new hb12
            replace hr3 := hr3.new hb12
            replace hr6 := hr6.new hb12
            replace hr9 := hr9.new hb12
            replace hr57 := hr57.new hb12
            replace hB := hB.acc hb12
            rw [hzb] at hr12
            refine WA_one 2 (by kernel_rfl) ?_
            refine WO_ent rfl rfl (rn_call (by kernel_rfl) rfl) (hI _ _ w12 (hr57.slA (m := 93) (sz := 1) (by rw [bv_length, zB, List.length_replicate]) (by omega))) ?_
            rintro _ w58 ⟨rfl, hb58⟩
            have hS940 := hS939.add0 hb58
            refine ⟨hS940, ?_⟩
            replace hr1 := hr1.new hb58
            replace hr3 := hr3.new hb58
            replace hr6 := hr6.new hb58
            replace hr9 := hr9.new hb58
            replace hr57 := hr57.new hb58
            replace hr12 := hr12.new hb58
            replace hB := hB.acc hb58
            refine WA_take 3 (by kernel_rfl) rfl (fun _ _ => rn_move) ?_
            refine WA_take 4 (by kernel_rfl) rfl (fun _ _ => rn_extract rfl rfl) ?_
            refine WA_take 5 (by kernel_rfl) rfl (fun _ _ => rn_extract rfl rfl) ?_
            refine WA_take 6 (by kernel_rfl) rfl (fun _ _ => rn_extract rfl rfl) ?_
            refine WA_one 8 (by kernel_rfl) ?_
            refine WO_sk rfl rfl (sk_storeA 512 (bv Z) rfl rfl hr12 (by kernel_rfl) (by first | assumption | (simp; done) | (simp [bv_length, *]; done)) (by first | assumption | (simp; done) | (simp [bv_length, *]; done) | rfl) (by first | exact bv_one _ | assumption | (simp [Value.oneCell']; done)) (fun w942 hr12 ho942 => ?_))
            have hS941 := hS940.add1 ho942 (by first | (left; omega) | (right; simp; done) | (right; simp; omega))
            refine ⟨hS941, ?_⟩
            replace hr1 := hr1.only ho942 (Nat.ne_of_lt lt_g1_g12)
            replace hr3 := hr3.only ho942 (Nat.ne_of_lt lt_g3_g12)
            replace hr6 := hr6.only ho942 (Nat.ne_of_lt lt_g6_g12)
            replace hr9 := hr9.only ho942 (Nat.ne_of_lt lt_g9_g12)
            replace hr57 := hr57.only ho942 (Nat.ne_of_lt lt_g57_g12)
            replace hB := ho942.below hB ge_hB_g12
            refine WA_take 9 (by kernel_rfl) rfl (fun _ _ => rn_assign) ?_
            refine WA_take 10 (by kernel_rfl) rfl (fun _ _ => rn_assign) ?_
            refine WA_done (by kernel_rfl) ?_
            refine loopN ⟨(), ⟨rfl, rfl, rfl, rfl, rfl, rfl, rfl, rfl, rfl⟩, hr1, hr3, hr6, hB⟩
        ·
          refine WO_mk rfl rfl (mk_alloc (List.replicate 512 (Value.int .u8 0)) (by kernel_rfl) (fun g12 w12 hg12 hr12 hb12 => ?_))
          have hS943 := hS933.add0 hb12
          refine ⟨hS943, ?_⟩
          have ge_hS933_g12 := Nat.le_trans hS933.size hg12
          have ge_hB_g12 := Nat.le_trans hB.size hg12
          have lt_g1_g12 : g1 < g12 := Nat.lt_of_lt_of_le hr1.lt hg12
          have lt_g3_g12 : g3 < g12 := Nat.lt_of_lt_of_le hr3.lt hg12
          have lt_g6_g12 : g6 < g12 := Nat.lt_of_lt_of_le hr6.lt hg12
          have lt_g9_g12 : g9 < g12 := Nat.lt_of_lt_of_le hr9.lt hg12
          replace hr1 := hr1.new hb12
          replace hr3 := hr3.new hb12
          replace hr6 := hr6.new hb12
          replace hr9 := hr9.new hb12
          replace hB := hB.acc hb12
          rw [hzb] at hr12
          refine WA_one 1 (by kernel_rfl) ?_
          refine WO_mk rfl rfl (mk_make (e := 5) 93 [.int .u8 0] 1 1 (.int .u8 0) (by kernel_rfl) (by kernel_rfl) ⟨_, rfl, rfl⟩ ⟨_, rfl, rfl⟩ (by simp) (by simp) (by omega) (by omega) (fun g57 w57 hg57 hr57 hb57 => ?_))
          have hS944 := hS943.add0 hb57
          refine ⟨hS944, ?_⟩
          have ge_hS943_g57 := Nat.le_trans hS943.size hg57
          have ge_hB_g57 := Nat.le_trans hB.size hg57
          have lt_g1_g57 : g1 < g57 := Nat.lt_of_lt_of_le hr1.lt hg57
          have lt_g3_g57 : g3 < g57 := Nat.lt_of_lt_of_le hr3.lt hg57
          have lt_g6_g57 : g6 < g57 := Nat.lt_of_lt_of_le hr6.lt hg57
          have lt_g9_g57 : g9 < g57 := Nat.lt_of_lt_of_le hr9.lt hg57
          have lt_g12_g57 : g12 < g57 := Nat.lt_of_lt_of_le hr12.lt hg57
          replace hr1 := hr1.new hb57
          replace hr3 := hr3.new hb57
          replace hr6 := hr6.new hb57
          replace hr9 := hr9.new hb57
          replace hr12 := hr12.new hb57
          replace hB := hB.acc hb57
          rw [zB_make] at hr57
          refine WA_one 2 (by kernel_rfl) ?_
          refine WO_ent rfl rfl (rn_call (by kernel_rfl) rfl) (hI _ _ w57 (hr57.slA (m := 93) (sz := 1) (by rw [bv_length, zB, List.length_replicate]) (by omega))) ?_
          rintro _ w58 ⟨rfl, hb58⟩
          have hS945 := hS944.add0 hb58
          refine ⟨hS945, ?_⟩
          replace hr1 := hr1.new hb58
          replace hr3 := hr3.new hb58
          replace hr6 := hr6.new hb58
          replace hr9 := hr9.new hb58
          replace hr12 := hr12.new hb58
          replace hr57 := hr57.new hb58
          replace hB := hB.acc hb58
          refine WA_take 3 (by kernel_rfl) rfl (fun _ _ => rn_move) ?_
          refine WA_take 4 (by kernel_rfl) rfl (fun _ _ => rn_extract rfl rfl) ?_
          refine WA_take 5 (by kernel_rfl) rfl (fun _ _ => rn_extract rfl rfl) ?_
          refine WA_take 6 (by kernel_rfl) rfl (fun _ _ => rn_extract rfl rfl) ?_
          refine WA_one 8 (by kernel_rfl) ?_
          refine WO_sk rfl rfl (sk_storeA 512 (bv Z) rfl rfl hr12 (by kernel_rfl) (by first | assumption | (simp; done) | (simp [bv_length, *]; done)) (by first | assumption | (simp; done) | (simp [bv_length, *]; done) | rfl) (by first | exact bv_one _ | assumption | (simp [Value.oneCell']; done)) (fun w947 hr12 ho947 => ?_))
          have hS946 := hS945.add1 ho947 (by first | (left; omega) | (right; simp; done) | (right; simp; omega))
          refine ⟨hS946, ?_⟩
          replace hr1 := hr1.only ho947 (Nat.ne_of_lt lt_g1_g12)
          replace hr3 := hr3.only ho947 (Nat.ne_of_lt lt_g3_g12)
          replace hr6 := hr6.only ho947 (Nat.ne_of_lt lt_g6_g12)
          replace hr9 := hr9.only ho947 (Nat.ne_of_lt lt_g9_g12)
          replace hr57 := hr57.only ho947 (Nat.ne_of_gt lt_g12_g57)
          replace hB := ho947.below hB ge_hB_g12
          refine WA_take 9 (by kernel_rfl) rfl (fun _ _ => rn_assign) ?_
          refine WA_take 10 (by kernel_rfl) rfl (fun _ _ => rn_assign) ?_
          refine WA_done (by kernel_rfl) ?_
          refine loopN ⟨(), ⟨rfl, rfl, rfl, rfl, rfl, rfl, rfl, rfl, rfl⟩, hr1, hr3, hr6, hB⟩
      ·
        rintro _ f3 w3 ⟨hr1, hr3, hr6, hB⟩
        refine W_seq ?_
        refine W_region ?_
        refine WR_val rfl (rn_load rfl (Ld.rowA (k := 512) hr1 (by kernel_rfl) (by kernel_rfl) (by first | (simp; done) | (simp [bv_length, *]; done) | assumption))) ?_
        refine WR_ent rfl (rn_call (by kernel_rfl) rfl) (hJ w3) ?_
        rintro _ w64 ⟨rfl, hb64⟩
        replace hr1 := hr1.new hb64
        replace hr3 := hr3.new hb64
        replace hr6 := hr6.new hb64
        replace hB := hB.acc hb64
        refine WR_val rfl (rn_move) ?_
        refine WR_val rfl (rn_extract rfl rfl) ?_
        refine WR_val rfl (rn_extract rfl rfl) ?_
        refine WR_mk rfl (mk_alloc (List.replicate 512 (Value.int .u8 0)) (by kernel_rfl) (fun g15 w15 hg15 hr15 hb15 => ?_))
        have ge_hB_g15 := Nat.le_trans hB.size hg15
        have lt_g1_g15 : g1 < g15 := Nat.lt_of_lt_of_le hr1.lt hg15
        have lt_g3_g15 : g3 < g15 := Nat.lt_of_lt_of_le hr3.lt hg15
        have lt_g6_g15 : g6 < g15 := Nat.lt_of_lt_of_le hr6.lt hg15
        replace hr1 := hr1.new hb15
        replace hr3 := hr3.new hb15
        replace hr6 := hr6.new hb15
        replace hB := hB.acc hb15
        rw [hzb] at hr15
        refine WR_sk rfl (sk_storeA 512 (bv QJ) rfl rfl hr15 (by kernel_rfl) (by first | assumption | (simp; done) | (simp [bv_length, *]; done)) (by first | assumption | (simp; done) | (simp [bv_length, *]; done) | rfl) (by first | exact bv_one _ | assumption | (simp [Value.oneCell']; done)) (fun w948 hr15 ho948 => ?_))
        replace hr1 := hr1.only ho948 (Nat.ne_of_lt lt_g1_g15)
        replace hr3 := hr3.only ho948 (Nat.ne_of_lt lt_g3_g15)
        replace hr6 := hr6.only ho948 (Nat.ne_of_lt lt_g6_g15)
        replace hB := ho948.below hB ge_hB_g15
        refine WR_val rfl (rn_assign) ?_
        refine WR_nil ?_
        refine thenN ?_
        refine W_seq ?_
        refine W_region ?_
        refine WR_val rfl (rn_load rfl (Ld.rowA (k := 512) hr1 (by kernel_rfl) (by kernel_rfl) (by first | (simp; done) | (simp [bv_length, *]; done) | assumption))) ?_
        refine WR_ent rfl (rn_call (by kernel_rfl) rfl) (hK w948) ?_
        rintro _ w69 ⟨rfl, hb69⟩
        replace hr1 := hr1.new hb69
        replace hr3 := hr3.new hb69
        replace hr6 := hr6.new hb69
        replace hr15 := hr15.new hb69
        replace hB := hB.acc hb69
        refine WR_val rfl (rn_move) ?_
        refine WR_val rfl (rn_extract rfl rfl) ?_
        refine WR_val rfl (rn_extract rfl rfl) ?_
        refine WR_mk rfl (mk_alloc (List.replicate 512 (Value.int .u8 0)) (by kernel_rfl) (fun g17 w17 hg17 hr17 hb17 => ?_))
        have ge_hB_g17 := Nat.le_trans hB.size hg17
        have lt_g1_g17 : g1 < g17 := Nat.lt_of_lt_of_le hr1.lt hg17
        have lt_g3_g17 : g3 < g17 := Nat.lt_of_lt_of_le hr3.lt hg17
        have lt_g6_g17 : g6 < g17 := Nat.lt_of_lt_of_le hr6.lt hg17
        have lt_g15_g17 : g15 < g17 := Nat.lt_of_lt_of_le hr15.lt hg17
        replace hr1 := hr1.new hb17
        replace hr3 := hr3.new hb17
        replace hr6 := hr6.new hb17
        replace hr15 := hr15.new hb17
        replace hB := hB.acc hb17
        rw [hzb] at hr17
        refine WR_sk rfl (sk_storeA 512 (bv Z) rfl rfl hr17 (by kernel_rfl) (by first | assumption | (simp; done) | (simp [bv_length, *]; done)) (by first | assumption | (simp; done) | (simp [bv_length, *]; done) | rfl) (by first | exact bv_one _ | assumption | (simp [Value.oneCell']; done)) (fun w949 hr17 ho949 => ?_))
        replace hr1 := hr1.only ho949 (Nat.ne_of_lt lt_g1_g17)
        replace hr3 := hr3.only ho949 (Nat.ne_of_lt lt_g3_g17)
        replace hr6 := hr6.only ho949 (Nat.ne_of_lt lt_g6_g17)
        replace hr15 := hr15.only ho949 (Nat.ne_of_lt lt_g15_g17)
        replace hB := ho949.below hB ge_hB_g17
        refine WR_val rfl (rn_assign) ?_
        refine WR_nil ?_
        refine thenN ?_
        refine W_seq ?_
        refine W_seq ?_
        refine W_region ?_
        refine WR_val rfl (rn_move) ?_
        refine WR_val rfl (rn_neq rfl rfl) ?_
        refine WR_val rfl (rn_move) ?_
        refine WR_fp 74 rfl ((by simp)) ?_
        refine WR_yes rfl ?_
        refine WR_val rfl (rn_move) ?_
        refine WR_yes rfl ?_
        refine WR_val rfl (rn_neq rfl rfl) ?_
        refine WR_val rfl (rn_pick_f rfl) ?_
        refine WR_val rfl (rn_move) ?_
        refine WR_fp 78 rfl ((by simp)) ?_
        refine WR_yes rfl ?_
        refine WR_val rfl (rn_move) ?_
        refine WR_yes rfl ?_
        refine WR_val rfl (rn_neq rfl rfl) ?_
        refine WR_val rfl (rn_pick_f rfl) ?_
        refine WR_val rfl (rn_move) ?_
        refine WR_fp 82 rfl ((by simp)) ?_
        refine WR_yes rfl ?_
        refine WR_val rfl (rn_move) ?_
        refine WR_yes rfl ?_
        refine WR_val rfl (rn_neq rfl rfl) ?_
        refine WR_val rfl (rn_pick_f rfl) ?_
        refine WR_val rfl (rn_move) ?_
        refine WR_fp 86 rfl ((by simp)) ?_
        refine WR_yes rfl ?_
        refine WR_val rfl (rn_move) ?_
        refine WR_yes rfl ?_
        refine WR_val rfl (rn_neq rfl rfl) ?_
        refine WR_val rfl (rn_pick_f rfl) ?_
        refine WR_val rfl (rn_move) ?_
        refine WR_fp 90 rfl ((by simp)) ?_
        refine WR_yes rfl ?_
        refine WR_val rfl (rn_move) ?_
        refine WR_yes rfl ?_
        refine WR_val rfl (rn_neq rfl rfl) ?_
        refine WR_val rfl (rn_pick_f rfl) ?_
        refine WR_val rfl (rn_move) ?_
        refine WR_fp 94 rfl ((by simp)) ?_
        refine WR_yes rfl ?_
        refine WR_val rfl (rn_move) ?_
        refine WR_yes rfl ?_
        refine WR_val rfl (rn_neq rfl rfl) ?_
        refine WR_val rfl (rn_pick_f rfl) ?_
        refine WR_val rfl (rn_move) ?_
        refine WR_fp 98 rfl ((by simp)) ?_
        refine WR_yes rfl ?_
        refine WR_val rfl (rn_load rfl (Ld.rowA (k := 512) hr6 (by kernel_rfl) (by kernel_rfl) (by first | (simp; done) | (simp [bv_length, *]; done) | assumption))) ?_
        refine WR_yes rfl ?_
        refine WR_ent rfl (rn_call (by kernel_rfl) rfl) (hRb w949) ?_
        rintro _ w100 ⟨rfl, hb100⟩
        replace hr1 := hr1.new hb100
        replace hr3 := hr3.new hb100
        replace hr6 := hr6.new hb100
        replace hr15 := hr15.new hb100
        replace hr17 := hr17.new hb100
        replace hB := hB.acc hb100
        refine WR_yes rfl ?_
        refine WR_val rfl (rn_neq rfl rfl) ?_
        refine WR_val rfl (rn_pick_f rfl) ?_
        refine WR_val rfl (rn_move) ?_
        refine WR_fp 103 rfl ((by simp)) ?_
        refine WR_yes rfl ?_
        refine WR_val rfl (rn_load rfl (Ld.rowA (k := 512) hr3 (by kernel_rfl) (by kernel_rfl) (by first | (simp; done) | (simp [bv_length, *]; done) | assumption))) ?_
        refine WR_yes rfl ?_
        refine WR_ent rfl (rn_call (by kernel_rfl) rfl) (hRa w100) ?_
        rintro _ w105 ⟨rfl, hb105⟩
        replace hr1 := hr1.new hb105
        replace hr3 := hr3.new hb105
        replace hr6 := hr6.new hb105
        replace hr15 := hr15.new hb105
        replace hr17 := hr17.new hb105
        replace hB := hB.acc hb105
        refine WR_yes rfl ?_
        refine WR_val rfl (rn_neq rfl rfl) ?_
        refine WR_val rfl (rn_pick_f rfl) ?_
        refine WR_nil ?_
        refine thenN ?_
        refine W_fp rfl ((by simp)) ?_
        refine W_skip ?_
        refine thenN ?_
        refine W_seq ?_
        refine W_seq ?_
        refine W_region ?_
        refine WR_val rfl (rn_assign) ?_
        refine WR_nil ?_
        refine thenN ?_
        refine W_block ?_
        rw [← hQ0] at hr1
        refine W_loop (α := Nat) 0 (fun n => [(19, .int .i64 (n : Nat)), (1, .pointer (some ⟨g1, 0, none⟩))]) (fun n w' => n ≤ 125 ∧ row w' g1 (bv (bytesV (eV n))) 23 ∧ Below w.heap.size w w') (fun n => 125 - n)
          ⟨rfl, rfl, rfl⟩ ⟨Nat.zero_le _, hr1, hB⟩ ?_
        clear hr1 hr3 hr6 hB hr15 hr17
        have hw1 : w.heap.size ≤ g1 := by omega
        rintro n f4 wr ⟨hn, hr1, hB⟩
        have hen := hEl n hn
        refine W_seq ?_
        refine W_seq ?_
        refine W_region ?_
        refine WR_val rfl (rn_move) ?_
        refine WR_val rfl (rn_lss rfl rfl) ?_
        refine WR_nil ?_
        refine thenN ?_
        refine W_ifp rfl (fun hlt => ?_) (fun hlt => ?_)
        ·
          refine W_skip ?_
          refine thenN ?_
          refine W_seq ?_
          refine W_block ?_
          refine W_seq ?_
          have hE2 := hE n (by omega)
          have hen2 := hEl (n + 1) (by omega)
          have hobt : ∃ Q1, bytesV (eV n) = Q1 := ⟨_, rfl⟩
          obtain ⟨Q1, hQ1⟩ := hobt
          have hobt : ∃ Q2, bytesV (eV (n + 1)) = Q2 := ⟨_, rfl⟩
          obtain ⟨Q2, hQ2⟩ := hobt
          rw [hQ1] at hE2 hen hr1
          rw [hQ2] at hE2 hen2
          refine W_region ?_
          refine WR_val rfl (rn_load rfl (Ld.rowA (k := 512) hr1 (by kernel_rfl) (by kernel_rfl) (by first | (simp; done) | (simp [bv_length, *]; done) | assumption))) ?_
          refine WR_ent rfl (rn_call (by kernel_rfl) rfl) (hE2 wr) ?_
          rintro _ w114 ⟨rfl, hb114⟩
          replace hr1 := hr1.new hb114
          replace hB := hB.acc hb114
          refine WR_val rfl (rn_move) ?_
          refine WR_val rfl (rn_extract rfl rfl) ?_
          refine WR_val rfl (rn_extract rfl rfl) ?_
          refine WR_val rfl (rn_extract rfl rfl) ?_
          refine WR_mk rfl (mk_alloc (List.replicate 512 (Value.int .u8 0)) (by kernel_rfl) (fun g20 w20 hg20 hr20 hb20 => ?_))
          have ge_hB_g20 := Nat.le_trans hB.size hg20
          have lt_g1_g20 : g1 < g20 := Nat.lt_of_lt_of_le hr1.lt hg20
          replace hr1 := hr1.new hb20
          replace hB := hB.acc hb20
          rw [hzb] at hr20
          refine WR_sk rfl (sk_storeA 512 (bv Q2) rfl rfl hr20 (by kernel_rfl) (by first | assumption | (simp; done) | (simp [bv_length, *]; done)) (by first | assumption | (simp; done) | (simp [bv_length, *]; done) | rfl) (by first | exact bv_one _ | assumption | (simp [Value.oneCell']; done)) (fun w950 hr20 ho950 => ?_))
          replace hr1 := hr1.only ho950 (Nat.ne_of_lt lt_g1_g20)
          replace hB := ho950.below hB ge_hB_g20
          refine WR_val rfl (rn_assign) ?_
          refine WR_val rfl (rn_assign) ?_
          refine WR_nil ?_
          refine thenN ?_
          refine W_seq ?_
          refine W_seq ?_
          refine W_region ?_
          refine WR_val rfl (rn_move) ?_
          refine WR_val rfl (rn_neq rfl rfl) ?_
          refine WR_val rfl (rn_move) ?_
          refine WR_fp 120 rfl ((by simp)) ?_
          refine WR_yes rfl ?_
          refine WR_val rfl (rn_move) ?_
          refine WR_yes rfl ?_
          refine WR_val rfl (rn_move) ?_
          refine WR_yes rfl ?_
          refine WR_val rfl (rn_neq rfl rfl) ?_
          refine WR_val rfl (rn_pick_f rfl) ?_
          refine WR_nil ?_
          refine thenN ?_
          refine W_fp rfl ((by simp)) ?_
          refine W_skip ?_
          refine thenN ?_
          refine W_region ?_
          refine WR_val rfl (rn_load rfl (Ld.rowA (k := 512) hr20 (by kernel_rfl) (by kernel_rfl) (by first | (simp; done) | (simp [bv_length, *]; done) | assumption))) ?_
          refine WR_sk rfl (sk_storeA 512 (bv Q2) rfl rfl hr1 (by kernel_rfl) (by first | assumption | (simp; done) | (simp [bv_length, *]; done)) (by first | assumption | (simp; done) | (simp [bv_length, *]; done) | rfl) (by first | exact bv_one _ | assumption | (simp [Value.oneCell']; done)) (fun w951 hr1 ho951 => ?_))
          replace hr20 := hr20.only ho951 (Nat.ne_of_gt lt_g1_g20)
          replace hB := ho951.below hB ge_hB_g1
          refine WR_nil ?_
          refine blockN ?_
          refine thenN ?_
          refine W_region ?_
          refine WR_val rfl (rn_move) ?_
          refine WR_val rfl (rn_add rfl rfl (Coup.w64 (by omega))) ?_
          refine WR_val rfl (rn_assign) ?_
          refine WR_nil ?_
          refine loopN ⟨n + 1, by omega, ⟨by go_num, rfl, rfl⟩, by omega, by rw [hQ2]; exact hr1, hB⟩
        ·
          obtain rfl : n = 125 := by omega
          have hob1 : ∃ Q1, bytesV (eV 125) = Q1 := ⟨_, rfl⟩
          obtain ⟨Q1, hQ1⟩ := hob1
          rw [hQ1] at hr1 hen hL hT hR5 hS5
          refine W_exit ?_
          refine thenX ?_
          refine loopX ?_
          refine blockX ?_
          refine thenN ?_
          refine W_seq ?_
          refine W_region ?_
          refine WR_val rfl (rn_load rfl (Ld.rowA (k := 512) hr1 (by kernel_rfl) (by kernel_rfl) (by first | (simp; done) | (simp [bv_length, *]; done) | assumption))) ?_
          refine WR_ent rfl (rn_call (by kernel_rfl) rfl) (hL wr) ?_
          rintro _ w128 ⟨rfl, hb128⟩
          replace hr1 := hr1.new hb128
          replace hB := hB.acc hb128
          refine WR_val rfl (rn_move) ?_
          refine WR_val rfl (rn_extract rfl rfl) ?_
          refine WR_val rfl (rn_extract rfl rfl) ?_
          refine WR_val rfl (rn_extract rfl rfl) ?_
          refine WR_mk rfl (mk_alloc (List.replicate 512 (Value.int .u8 0)) (by kernel_rfl) (fun g23 w23 hg23 hr23 hb23 => ?_))
          have ge_hB_g23 := Nat.le_trans hB.size hg23
          have lt_g1_g23 : g1 < g23 := Nat.lt_of_lt_of_le hr1.lt hg23
          replace hr1 := hr1.new hb23
          replace hB := hB.acc hb23
          rw [hzb] at hr23
          refine WR_sk rfl (sk_storeA 512 (bv Z) rfl rfl hr23 (by kernel_rfl) (by first | assumption | (simp; done) | (simp [bv_length, *]; done)) (by first | assumption | (simp; done) | (simp [bv_length, *]; done) | rfl) (by first | exact bv_one _ | assumption | (simp [Value.oneCell']; done)) (fun w952 hr23 ho952 => ?_))
          replace hr1 := hr1.only ho952 (Nat.ne_of_lt lt_g1_g23)
          replace hB := ho952.below hB ge_hB_g23
          refine WR_val rfl (rn_assign) ?_
          refine WR_val rfl (rn_assign) ?_
          refine WR_nil ?_
          refine thenN ?_
          refine W_seq ?_
          refine W_region ?_
          refine WR_val rfl (rn_load rfl (Ld.rowA (k := 512) hr1 (by kernel_rfl) (by kernel_rfl) (by first | (simp; done) | (simp [bv_length, *]; done) | assumption))) ?_
          refine WR_ent rfl (rn_call (by kernel_rfl) rfl) (hT w952) ?_
          rintro _ w134 ⟨rfl, hb134⟩
          replace hr1 := hr1.new hb134
          replace hr23 := hr23.new hb134
          replace hB := hB.acc hb134
          refine WR_val rfl (rn_move) ?_
          refine WR_val rfl (rn_extract rfl rfl) ?_
          refine WR_val rfl (rn_extract rfl rfl) ?_
          refine WR_mk rfl (mk_alloc (List.replicate 512 (Value.int .u8 0)) (by kernel_rfl) (fun g26 w26 hg26 hr26 hb26 => ?_))
          have ge_hB_g26 := Nat.le_trans hB.size hg26
          have lt_g1_g26 : g1 < g26 := Nat.lt_of_lt_of_le hr1.lt hg26
          have lt_g23_g26 : g23 < g26 := Nat.lt_of_lt_of_le hr23.lt hg26
          replace hr1 := hr1.new hb26
          replace hr23 := hr23.new hb26
          replace hB := hB.acc hb26
          rw [hzb] at hr26
          refine WR_sk rfl (sk_storeA 512 (bv QT) rfl rfl hr26 (by kernel_rfl) (by first | assumption | (simp; done) | (simp [bv_length, *]; done)) (by first | assumption | (simp; done) | (simp [bv_length, *]; done) | rfl) (by first | exact bv_one _ | assumption | (simp [Value.oneCell']; done)) (fun w953 hr26 ho953 => ?_))
          replace hr1 := hr1.only ho953 (Nat.ne_of_lt lt_g1_g26)
          replace hr23 := hr23.only ho953 (Nat.ne_of_lt lt_g23_g26)
          replace hB := ho953.below hB ge_hB_g26
          refine WR_val rfl (rn_assign) ?_
          refine WR_nil ?_
          refine thenN ?_
          refine W_seq ?_
          refine W_region ?_
          refine WR_val rfl (rn_load rfl (Ld.rowA (k := 512) hr26 (by kernel_rfl) (by kernel_rfl) (by first | (simp; done) | (simp [bv_length, *]; done) | assumption))) ?_
          refine WR_ent rfl (rn_call (by kernel_rfl) rfl) (hX w953) ?_
          rintro _ w139 ⟨rfl, hb139⟩
          replace hr1 := hr1.new hb139
          replace hr23 := hr23.new hb139
          replace hr26 := hr26.new hb139
          replace hB := hB.acc hb139
          refine WR_val rfl (rn_move) ?_
          refine WR_val rfl (rn_extract rfl rfl) ?_
          refine WR_val rfl (rn_extract rfl rfl) ?_
          refine WR_val rfl (rn_extract rfl rfl) ?_
          refine WR_mk rfl (mk_alloc (List.replicate 512 (Value.int .u8 0)) (by kernel_rfl) (fun g28 w28 hg28 hr28 hb28 => ?_))
          have ge_hB_g28 := Nat.le_trans hB.size hg28
          have lt_g1_g28 : g1 < g28 := Nat.lt_of_lt_of_le hr1.lt hg28
          have lt_g23_g28 : g23 < g28 := Nat.lt_of_lt_of_le hr23.lt hg28
          have lt_g26_g28 : g26 < g28 := Nat.lt_of_lt_of_le hr26.lt hg28
          replace hr1 := hr1.new hb28
          replace hr23 := hr23.new hb28
          replace hr26 := hr26.new hb28
          replace hB := hB.acc hb28
          rw [hzb] at hr28
          refine WR_sk rfl (sk_storeA 512 (bv QX) rfl rfl hr28 (by kernel_rfl) (by first | assumption | (simp; done) | (simp [bv_length, *]; done)) (by first | assumption | (simp; done) | (simp [bv_length, *]; done) | rfl) (by first | exact bv_one _ | assumption | (simp [Value.oneCell']; done)) (fun w954 hr28 ho954 => ?_))
          replace hr1 := hr1.only ho954 (Nat.ne_of_lt lt_g1_g28)
          replace hr23 := hr23.only ho954 (Nat.ne_of_lt lt_g23_g28)
          replace hr26 := hr26.only ho954 (Nat.ne_of_lt lt_g26_g28)
          replace hB := ho954.below hB ge_hB_g28
          refine WR_val rfl (rn_assign) ?_
          refine WR_val rfl (rn_assign) ?_
          refine WR_nil ?_
          refine thenN ?_
          refine W_seq ?_
          refine W_region ?_
          refine WR_val rfl (rn_move) ?_
          refine WR_val rfl (rn_eql rfl rfl) ?_
          refine WR_val rfl (rn_move) ?_
          refine WR_tp 145 rfl ((by simp)) ?_
          refine WR_yes rfl ?_
          refine WR_val rfl (rn_load rfl (Ld.rowA (k := 512) hr1 (by kernel_rfl) (by kernel_rfl) (by first | (simp; done) | (simp [bv_length, *]; done) | assumption))) ?_
          refine WR_yes rfl ?_
          refine WR_ent rfl (rn_call (by kernel_rfl) rfl) (hR5 w954) ?_
          rintro _ w147 ⟨rfl, hb147⟩
          replace hr1 := hr1.new hb147
          replace hr23 := hr23.new hb147
          replace hr26 := hr26.new hb147
          replace hr28 := hr28.new hb147
          replace hB := hB.acc hb147
          refine WR_yes rfl ?_
          refine WR_val rfl (rn_eql rfl rfl) ?_
          refine WR_val rfl (rn_pick_t rfl) ?_
          refine WR_val rfl (rn_move) ?_
          refine WR_tp 150 rfl ((by simp)) ?_
          refine WR_yes rfl ?_
          refine WR_val rfl (rn_load rfl (Ld.rowA (k := 512) hr1 (by kernel_rfl) (by kernel_rfl) (by first | (simp; done) | (simp [bv_length, *]; done) | assumption))) ?_
          refine WR_yes rfl ?_
          refine WR_ent rfl (rn_call (by kernel_rfl) rfl) (hS5 w147) ?_
          rintro _ w152 ⟨rfl, hb152⟩
          replace hr1 := hr1.new hb152
          replace hr23 := hr23.new hb152
          replace hr26 := hr26.new hb152
          replace hr28 := hr28.new hb152
          replace hB := hB.acc hb152
          refine WR_yes rfl ?_
          refine WR_val rfl (rn_eql rfl rfl) ?_
          refine WR_val rfl (rn_pick_t rfl) ?_
          refine WR_val rfl (rn_move) ?_
          refine WR_tp 155 rfl ((by simp)) ?_
          refine WR_yes rfl ?_
          refine WR_val rfl (rn_move) ?_
          refine WR_yes rfl ?_
          refine WR_val rfl (rn_eql rfl rfl) ?_
          refine WR_val rfl (rn_pick_t rfl) ?_
          refine WR_val rfl (rn_move) ?_
          refine WR_tp 159 rfl ((by simp)) ?_
          refine WR_yes rfl ?_
          refine WR_val rfl (rn_load rfl (Ld.rowA (k := 512) hr26 (by kernel_rfl) (by kernel_rfl) (by first | (simp; done) | (simp [bv_length, *]; done) | assumption))) ?_
          refine WR_yes rfl ?_
          refine WR_ent rfl (rn_call (by kernel_rfl) rfl) (hRt w152) ?_
          rintro _ w161 ⟨rfl, hb161⟩
          replace hr1 := hr1.new hb161
          replace hr23 := hr23.new hb161
          replace hr26 := hr26.new hb161
          replace hr28 := hr28.new hb161
          replace hB := hB.acc hb161
          refine WR_yes rfl ?_
          refine WR_val rfl (rn_eql rfl rfl) ?_
          refine WR_val rfl (rn_pick_t rfl) ?_
          refine WR_val rfl (rn_move) ?_
          refine WR_tp 164 rfl ((by simp)) ?_
          refine WR_yes rfl ?_
          refine WR_val rfl (rn_move) ?_
          refine WR_yes rfl ?_
          refine WR_val rfl (rn_eql rfl rfl) ?_
          refine WR_val rfl (rn_pick_t rfl) ?_
          refine WR_val rfl (rn_move) ?_
          refine WR_tp 168 rfl ((by simp)) ?_
          refine WR_yes rfl ?_
          refine WR_val rfl (rn_move) ?_
          refine WR_yes rfl ?_
          refine WR_val rfl (rn_eql rfl rfl) ?_
          refine WR_val rfl (rn_pick_t rfl) ?_
          refine WR_val rfl (rn_move) ?_
          refine WR_tp 172 rfl ((by simp)) ?_
          refine WR_yes rfl ?_
          refine WR_ent rfl (rn_call (by kernel_rfl) rfl) (known13 w161) ?_
          rintro _ w173 ⟨rfl, hb173⟩
          replace hr1 := hr1.new hb173
          replace hr23 := hr23.new hb173
          replace hr26 := hr26.new hb173
          replace hr28 := hr28.new hb173
          replace hB := hB.acc hb173
          refine WR_val rfl (rn_pick_t rfl) ?_
          refine WR_val rfl (rn_assign) ?_
          refine WR_nil ?_
          refine thenN ?_
          refine W_ret ?_
          refine ret_ret [_] ⟨rfl, trivial⟩ ?_
          exact ⟨rfl, hB⟩
end Go.Proofs.Ytjdcopfnhkfimaa
