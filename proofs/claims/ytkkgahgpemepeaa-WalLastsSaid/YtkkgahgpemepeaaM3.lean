/- Texts of one proof, laid one behind the other: WalB, WalC, Vm20, WalD, WalE, WalF, WalG, WalH, WalI, Vm21, WalJ, WalK, WalL. -/
import Derived.Test.YtkkgahgpemepeaaM2
import Derived.Test.YtkkgahgpemepeaaM1
import Derived.Lib.BufferWrite
import Derived.Test.YtkkgahgpemepeaaM0
/- A record's bytes, and the record of bytes. -/
namespace Go.Proofs.Ytkkgahgpemepeaa
open Go Go.RowKit Coup

theorem wrap_byte (x : Int) : ∃ b : UInt8, IntKind.u8.wrap x = (b.toNat : Int) := by
  have h : 0 ≤ IntKind.u8.wrap x ∧ IntKind.u8.wrap x < 256 := by rw [IntKind.wrap_u8]; omega
  refine ⟨UInt8.ofNat (IntKind.u8.wrap x).toNat, ?_⟩
  rw [UInt8.toNat_ofNat']
  omega
theorem four_bytes (n : Int) : ∃ l4 : List UInt8, l4.length = 4 ∧ (0 ≤ n → l4 = beB 4 n.toNat) ∧ [Value.int .u8 (IntKind.u8.wrap (n.fdiv (2 ^ (min (24 : Int).toNat IntKind.i64.bits)))), .int .u8 (IntKind.u8.wrap (n.fdiv (2 ^ (min (16 : Int).toNat IntKind.i64.bits)))), .int .u8 (IntKind.u8.wrap (n.fdiv (2 ^ (min (8 : Int).toNat IntKind.i64.bits)))), .int .u8 (IntKind.u8.wrap n)] = bv l4 := by
  show ∃ l4 : List UInt8, l4.length = 4 ∧ (0 ≤ n → l4 = beB 4 n.toNat) ∧ [Value.int .u8 (IntKind.u8.wrap (n.fdiv (2 ^ 24))), .int .u8 (IntKind.u8.wrap (n.fdiv (2 ^ 16))), .int .u8 (IntKind.u8.wrap (n.fdiv (2 ^ 8))), .int .u8 (IntKind.u8.wrap n)] = bv l4
  by_cases h : 0 ≤ n
  · obtain ⟨k, rfl⟩ : ∃ k : Nat, n = k := ⟨n.toNat, by omega⟩
    exact ⟨beB 4 k, beB_length _ _, fun _ => by rw [Int.toNat_natCast], bytes4 k⟩
  · obtain ⟨a, ha⟩ := wrap_byte (n.fdiv (2 ^ 24))
    obtain ⟨b, hb⟩ := wrap_byte (n.fdiv (2 ^ 16))
    obtain ⟨c, hc⟩ := wrap_byte (n.fdiv (2 ^ 8))
    obtain ⟨d, hd⟩ := wrap_byte n
    exact ⟨[a, b, c, d], rfl, fun h' => absurd h' h, by rw [ha, hb, hc, hd]; rfl⟩
def numOk (n : Int) : Bool := decide (0 ≤ n ∧ n < 2147483648)
set_option maxRecDepth 20000 in
theorem put39 (c : Ch) (hc : c.page.length = 512) (gb base m : Nat) (u : Value) (xs : List UInt8) (w : World) (hr : row w gb [u] 23) (hu : ownsAt w base 5 1 u m (bv xs)) (hgb : gb < base) (hbw : base ≤ w.heap.size) (hm : m ≤ 1000000) :
    Calls Try.prog 39 [.agg (chV c).toArray, .pointer (some ⟨gb, 0, none⟩)].toArray w (Ret fun v w' => v = .bool (numOk c.num) ∧ ∃ u' l4, l4.length = 4 ∧ (0 ≤ c.num → l4 = beB 4 c.num.toNat) ∧ row w' gb [u'] 23 ∧ ownsAt w' base 5 1 u' (m + 516) (bv (xs ++ (l4 ++ c.page))) ∧ Kp (gb :: u.ownBlock.toList) w w') := by
  have hml : maxLen = 9223372036854775807 := by decide
  have hgl := hr.lt
  have hchl := chV_len hc
  obtain ⟨l4, h41, h42, h43⟩ := four_bytes c.num
  have hu2 := fun b e => (hu.lt b e).2
  refine calls_W (fn := Try.f39) (rs := [.tmp 3]) (n := 30) Try.func39 rfl rfl Try.ntmps39 (by kernel_rfl) rfl ?_
  refine W_seq ?_
  refine W_region ?_
  refine WR_mk rfl (mk_box ((chV c)) rfl (fun g2 w2 hg2 hr2 hb2 => ?_))
  have lt_gb_g2 : gb < g2 := Nat.lt_of_lt_of_le hr.lt hg2
  replace hr := hr.new hb2
  replace hu := hu.new hb2
  refine WR_val rfl (rn_assign) ?_
  refine WR_nil ?_
  refine thenN ?_
  refine W_seq ?_
  refine W_region ?_
  refine WR_val rfl (rn_fieldAddr (off := 0) (by kernel_rfl) rfl) ?_
  refine WR_val rfl (rn_load rfl (Ld.row1 hr2 (by kernel_rfl) rfl)) ?_
  refine WR_val rfl (rn_assign) ?_
  refine WR_nil ?_
  refine thenN ?_
  refine W_seq ?_
  refine W_draw' (gb :: u.ownBlock.toList) (by kernel_rfl) ?_
  intro w901 hb901 hS901
  replace hr := hr.new hb901
  replace hu := hu.new hb901
  replace hr2 := hr2.new hb901
  have hr_d901 := hr
  have hu_d901 := hu
  have hr2_d901 := hr2
  refine WA_take 1 (by kernel_rfl) rfl (fun _ _ => rn_move) ?_
  refine WA_take 2 (by kernel_rfl) rfl (fun _ _ => rn_shr rfl rfl (by omega) rfl) ?_
  refine WA_take 3 (by kernel_rfl) rfl (fun _ _ => rn_conv (k := .u8) (by kernel_rfl) (by kernel_rfl) rfl rfl) ?_
  refine WA_take 4 (by kernel_rfl) rfl (fun _ _ => rn_move) ?_
  refine WA_take 5 (by kernel_rfl) rfl (fun _ _ => rn_shr rfl rfl (by omega) rfl) ?_
  refine WA_take 6 (by kernel_rfl) rfl (fun _ _ => rn_conv (k := .u8) (by kernel_rfl) (by kernel_rfl) rfl rfl) ?_
  refine WA_take 7 (by kernel_rfl) rfl (fun _ _ => rn_move) ?_
  refine WA_take 8 (by kernel_rfl) rfl (fun _ _ => rn_shr rfl rfl (by omega) rfl) ?_
  refine WA_take 9 (by kernel_rfl) rfl (fun _ _ => rn_conv (k := .u8) (by kernel_rfl) (by kernel_rfl) rfl rfl) ?_
  refine WA_take 10 (by kernel_rfl) rfl (fun _ _ => rn_move) ?_
  refine WA_take 11 (by kernel_rfl) rfl (fun _ _ => rn_conv (k := .u8) (by kernel_rfl) (by kernel_rfl) rfl rfl) ?_
  refine WA_take 14 (by kernel_rfl) rfl (fun _ _ => rn_fieldAddr (off := 1) (by kernel_rfl) rfl) ?_
  refine WA_take 15 (by kernel_rfl) rfl (fun _ _ => rn_sliceAr1' (e := 5) (n := 512) (0) (512) (512) (512) (by kernel_rfl) rfl rfl rfl rfl (by simp) (by omega) (by omega) (by omega) (by omega) (by omega)) ?_
  refine WA_two 0 12 (by kernel_rfl) ?_ ?_
  ·
    refine WO_val rfl rfl (rn_load rfl (Ld.row1 hr (by kernel_rfl) rfl)) hS901 ?_
    refine WA_one 12 (by kernel_rfl) ?_
    have z1 := hr.lt
    refine WO_mk rfl rfl (mk_buildSlice (e := 5) [(0, .int .u8 (IntKind.u8.wrap (c.num.fdiv (2 ^ (min (24 : Int).toNat IntKind.i64.bits))))), (1, .int .u8 (IntKind.u8.wrap (c.num.fdiv (2 ^ (min (16 : Int).toNat IntKind.i64.bits))))), (2, .int .u8 (IntKind.u8.wrap (c.num.fdiv (2 ^ (min (8 : Int).toNat IntKind.i64.bits))))), (3, .int .u8 (IntKind.u8.wrap c.num))] [.int .u8 0] 1 (by kernel_rfl) (by kernel_rfl) rfl (by omega) (by omega) (by intro i hi; rcases i with _ | _ | _ | _ | i <;> first | (simp [Value.cells]; done) | (exfalso; simp only [List.length_cons, List.length_nil] at hi; omega)) (by simp [Value.cells]) (fun g19 w19 hg19 hr19 hb19 => ?_))
    have hS903 := hS901.add0 hb19
    refine ⟨hS903, ?_⟩
    have ge_hS901_g19 := Nat.le_trans hS901.size hg19
    have lt_gb_g19 : gb < g19 := Nat.lt_of_lt_of_le hr.lt hg19
    have lt_g2_g19 : g2 < g19 := Nat.lt_of_lt_of_le hr2.lt hg19
    replace hr := hr.new hb19
    replace hu := hu.new hb19
    replace hr2 := hr2.new hb19
    replace hr19 : row w19 g19 (bv l4) 5 := by rw [← h43]; exact hr19
    refine WA_one 13 (by kernel_rfl) ?_
    have hs19 := hr19.slA (m := 4) (sz := 1) (by rw [bv_length, h41]) (by omega)
    have hu0 := fun b e => (hu.lt b e).1
    have z3 := hb2.size
    have z4 := hb901.size
    have z5 := hS903.size
    have hr20 := hr2
    refine WO_mk rfl rfl (mk_append (e := 5) (sz := 1) (bytes := 1) (z := Value.int .u8 0) (by kernel_rfl) rfl (by kernel_rfl) rfl (by decide) rfl hu rfl hs19 (bv_one _) (by unfold maxLen; omega) (by omega) (fun hm0 => by omega) (fun v20 w20 hv20 hgr20 hfr20 => ?_))
    have hS904 := hS903.ownS hu hgr20 (by first | (left; omega) | exact Or.inr (fun _ h => h) | exact Or.inr (fun _ h => List.mem_cons_of_mem _ h))
    refine ⟨hS904, ?_⟩
    have kG := Kp.of_grown hgr20
    replace hr2 := hr2.kpd kG (fun hm => by have := hu2 g2 (Option.mem_toList.1 hm); have := hu0 g2 (Option.mem_toList.1 hm); omega)
    replace hr := hr.kpd kG (fun hm => by have := hu0 gb (Option.mem_toList.1 hm); omega)
    refine WA_one 16 (by kernel_rfl) ?_
    have hp2 : SlAt w20 (some ⟨g2, 0 + 1, none⟩) 512 1 (bv c.page) := by have h9 := hr2.sl (m := 512) (sz := 1) (0 + 1) (by omega) (by omega); rw [show (chV c).drop (0 + 1) = bv c.page from rfl, List.take_of_length_le (by rw [bv_length, hc]; omega)] at h9; exact h9
    have hv0 := fun b e => (hv20.lt b e).1
    have hw0 := fun b e => (hv20.lt b e).2
    refine WO_mk rfl rfl (mk_append (e := 5) (sz := 1) (bytes := 1) (z := Value.int .u8 0) (by kernel_rfl) rfl (by kernel_rfl) rfl (by decide) rfl hv20 rfl hp2 (bv_one _) (by unfold maxLen; omega) (by omega) (fun hm0 => by omega) (fun v23 w23 hv23 hgr23 hfr23 => ?_))
    have hS905 := hS904.add (Kp.of_grown hgr23) (fun g hm => by first | exact Or.inr hm | exact Or.inr (List.mem_cons_of_mem _ hm) | (have := (hv20.lt g (Option.mem_toList.1 hm)).1; left; omega) | exact (hfr20 g (Option.mem_toList.1 hm)).elim (fun e => Or.inr (Option.mem_toList.2 e)) (fun e => Or.inl (by omega)) | exact (hfr20 g (Option.mem_toList.1 hm)).elim (fun e => Or.inr (List.mem_cons_of_mem _ (Option.mem_toList.2 e))) (fun e => Or.inl (by omega)))
    refine ⟨hS905, ?_⟩
    have kG2 := Kp.of_grown hgr23
    have hform := hv23.form
    obtain ⟨p23, c23, rfl⟩ := hform
    replace hr := hr.kpd kG2 (fun hm => by have := hv0 gb (Option.mem_toList.1 hm); omega)
    refine WA_one 17 (by kernel_rfl) ?_
    refine WO_sk rfl rfl (sk_store1 rfl rfl rfl rfl hr (by kernel_rfl) (by first | (simp only [List.length_replicate]; omega) | (simp only [iv_length]; omega) | (simp only [bv_length, List.length_set]; omega) | simp) (fun w907 hr ho907 => ?_))
    have hS906 := hS905.add1 ho907 (by first | (left; omega) | (right; simp; done) | (right; simp; omega))
    refine ⟨hS906, ?_⟩
    have hfin := hS906
    have hv24 := hv23.only ho907 (by omega)
    refine WA_done (by kernel_rfl) ?_
    refine thenN ?_
    refine W_seq ?_
    refine W_region ?_
    refine WR_val rfl (rn_move) ?_
    refine WR_val rfl (rn_geq rfl rfl) ?_
    refine WR_val rfl (rn_move) ?_
    have hres : ownsAt w907 base 5 1 (.slice p23 (m + 4 + 512) c23) (m + 516) (bv (xs ++ (l4 ++ c.page))) := by
      rw [← bv_append, ← bv_append, List.append_assoc] at hv24
      rw [show m + 516 = m + 4 + 512 by omega]
      exact hv24
    have hkf : Kp (gb :: u.ownBlock.toList) w w907 := (Kp.of_below' hb2).trans ((Kp.of_below' hb901).trans hfin)
    refine WR_part 26 rfl (fun hn0 => ?_) (fun hn0 => ?_)
    ·
      refine WR_yes rfl ?_
      refine WR_val rfl (rn_move) ?_
      refine WR_yes rfl ?_
      refine WR_val rfl (rn_lss rfl rfl) ?_
      refine WR_val rfl (rn_pick_t rfl) ?_
      refine WR_val rfl (rn_assign) ?_
      refine WR_nil ?_
      refine thenN ?_
      refine W_ret ?_
      refine ret_ret [_] ⟨rfl, trivial⟩ ?_
      refine ⟨?_, _, l4, h41, h42, hr, hres, hkf⟩
      show Value.bool (decide _) = _
      congr 1
      unfold numOk
      by_cases h1 : c.num < 2147483648 <;> simp [hn0, h1]
    ·
      refine WR_no rfl rfl ?_
      refine WR_no rfl rfl ?_
      refine WR_val rfl (rn_pick_f rfl) ?_
      refine WR_val rfl (rn_assign) ?_
      refine WR_nil ?_
      refine thenN ?_
      refine W_ret ?_
      refine ret_ret [_] ⟨rfl, trivial⟩ ?_
      refine ⟨?_, _, l4, h41, h42, hr, hres, hkf⟩
      show Value.bool false = _
      congr 1
      unfold numOk
      rw [decide_eq_false (by omega)]
  ·
    have z1 := hr.lt
    refine WO_mk rfl rfl (mk_buildSlice (e := 5) [(0, .int .u8 (IntKind.u8.wrap (c.num.fdiv (2 ^ (min (24 : Int).toNat IntKind.i64.bits))))), (1, .int .u8 (IntKind.u8.wrap (c.num.fdiv (2 ^ (min (16 : Int).toNat IntKind.i64.bits))))), (2, .int .u8 (IntKind.u8.wrap (c.num.fdiv (2 ^ (min (8 : Int).toNat IntKind.i64.bits))))), (3, .int .u8 (IntKind.u8.wrap c.num))] [.int .u8 0] 1 (by kernel_rfl) (by kernel_rfl) rfl (by omega) (by omega) (by intro i hi; rcases i with _ | _ | _ | _ | i <;> first | (simp [Value.cells]; done) | (exfalso; simp only [List.length_cons, List.length_nil] at hi; omega)) (by simp [Value.cells]) (fun g19 w19 hg19 hr19 hb19 => ?_))
    have hS908 := hS901.add0 hb19
    refine ⟨hS908, ?_⟩
    have ge_hS901_g19 := Nat.le_trans hS901.size hg19
    have lt_gb_g19 : gb < g19 := Nat.lt_of_lt_of_le hr.lt hg19
    have lt_g2_g19 : g2 < g19 := Nat.lt_of_lt_of_le hr2.lt hg19
    replace hr := hr.new hb19
    replace hu := hu.new hb19
    replace hr2 := hr2.new hb19
    replace hr19 : row w19 g19 (bv l4) 5 := by rw [← h43]; exact hr19
    refine WA_one 0 (by kernel_rfl) ?_
    refine WO_val rfl rfl (rn_load rfl (Ld.row1 hr (by kernel_rfl) rfl)) hS908 ?_
    refine WA_one 13 (by kernel_rfl) ?_
    have hs19 := hr19.slA (m := 4) (sz := 1) (by rw [bv_length, h41]) (by omega)
    have hu0 := fun b e => (hu.lt b e).1
    have z3 := hb2.size
    have z4 := hb901.size
    have z5 := hS908.size
    have hr20 := hr2
    refine WO_mk rfl rfl (mk_append (e := 5) (sz := 1) (bytes := 1) (z := Value.int .u8 0) (by kernel_rfl) rfl (by kernel_rfl) rfl (by decide) rfl hu rfl hs19 (bv_one _) (by unfold maxLen; omega) (by omega) (fun hm0 => by omega) (fun v20 w20 hv20 hgr20 hfr20 => ?_))
    have hS910 := hS908.ownS hu hgr20 (by first | (left; omega) | exact Or.inr (fun _ h => h) | exact Or.inr (fun _ h => List.mem_cons_of_mem _ h))
    refine ⟨hS910, ?_⟩
    have kG := Kp.of_grown hgr20
    replace hr2 := hr2.kpd kG (fun hm => by have := hu2 g2 (Option.mem_toList.1 hm); have := hu0 g2 (Option.mem_toList.1 hm); omega)
    replace hr := hr.kpd kG (fun hm => by have := hu0 gb (Option.mem_toList.1 hm); omega)
    refine WA_one 16 (by kernel_rfl) ?_
    have hp2 : SlAt w20 (some ⟨g2, 0 + 1, none⟩) 512 1 (bv c.page) := by have h9 := hr2.sl (m := 512) (sz := 1) (0 + 1) (by omega) (by omega); rw [show (chV c).drop (0 + 1) = bv c.page from rfl, List.take_of_length_le (by rw [bv_length, hc]; omega)] at h9; exact h9
    have hv0 := fun b e => (hv20.lt b e).1
    have hw0 := fun b e => (hv20.lt b e).2
    refine WO_mk rfl rfl (mk_append (e := 5) (sz := 1) (bytes := 1) (z := Value.int .u8 0) (by kernel_rfl) rfl (by kernel_rfl) rfl (by decide) rfl hv20 rfl hp2 (bv_one _) (by unfold maxLen; omega) (by omega) (fun hm0 => by omega) (fun v23 w23 hv23 hgr23 hfr23 => ?_))
    have hS911 := hS910.add (Kp.of_grown hgr23) (fun g hm => by first | exact Or.inr hm | exact Or.inr (List.mem_cons_of_mem _ hm) | (have := (hv20.lt g (Option.mem_toList.1 hm)).1; left; omega) | exact (hfr20 g (Option.mem_toList.1 hm)).elim (fun e => Or.inr (Option.mem_toList.2 e)) (fun e => Or.inl (by omega)) | exact (hfr20 g (Option.mem_toList.1 hm)).elim (fun e => Or.inr (List.mem_cons_of_mem _ (Option.mem_toList.2 e))) (fun e => Or.inl (by omega)))
    refine ⟨hS911, ?_⟩
    have kG2 := Kp.of_grown hgr23
    have hform := hv23.form
    obtain ⟨p23, c23, rfl⟩ := hform
    replace hr := hr.kpd kG2 (fun hm => by have := hv0 gb (Option.mem_toList.1 hm); omega)
    refine WA_one 17 (by kernel_rfl) ?_
    refine WO_sk rfl rfl (sk_store1 rfl rfl rfl rfl hr (by kernel_rfl) (by first | (simp only [List.length_replicate]; omega) | (simp only [iv_length]; omega) | (simp only [bv_length, List.length_set]; omega) | simp) (fun w913 hr ho913 => ?_))
    have hS912 := hS911.add1 ho913 (by first | (left; omega) | (right; simp; done) | (right; simp; omega))
    refine ⟨hS912, ?_⟩
    have hfin := hS912
    have hv24 := hv23.only ho913 (by omega)
    refine WA_done (by kernel_rfl) ?_
    refine thenN ?_
    refine W_seq ?_
    refine W_region ?_
    refine WR_val rfl (rn_move) ?_
    refine WR_val rfl (rn_geq rfl rfl) ?_
    refine WR_val rfl (rn_move) ?_
    have hres : ownsAt w913 base 5 1 (.slice p23 (m + 4 + 512) c23) (m + 516) (bv (xs ++ (l4 ++ c.page))) := by
      rw [← bv_append, ← bv_append, List.append_assoc] at hv24
      rw [show m + 516 = m + 4 + 512 by omega]
      exact hv24
    have hkf : Kp (gb :: u.ownBlock.toList) w w913 := (Kp.of_below' hb2).trans ((Kp.of_below' hb901).trans hfin)
    refine WR_part 26 rfl (fun hn0 => ?_) (fun hn0 => ?_)
    ·
      refine WR_yes rfl ?_
      refine WR_val rfl (rn_move) ?_
      refine WR_yes rfl ?_
      refine WR_val rfl (rn_lss rfl rfl) ?_
      refine WR_val rfl (rn_pick_t rfl) ?_
      refine WR_val rfl (rn_assign) ?_
      refine WR_nil ?_
      refine thenN ?_
      refine W_ret ?_
      refine ret_ret [_] ⟨rfl, trivial⟩ ?_
      refine ⟨?_, _, l4, h41, h42, hr, hres, hkf⟩
      show Value.bool (decide _) = _
      congr 1
      unfold numOk
      by_cases h1 : c.num < 2147483648 <;> simp [hn0, h1]
    ·
      refine WR_no rfl rfl ?_
      refine WR_no rfl rfl ?_
      refine WR_val rfl (rn_pick_f rfl) ?_
      refine WR_val rfl (rn_assign) ?_
      refine WR_nil ?_
      refine thenN ?_
      refine W_ret ?_
      refine ret_ret [_] ⟨rfl, trivial⟩ ?_
      refine ⟨?_, _, l4, h41, h42, hr, hres, hkf⟩
      show Value.bool false = _
      congr 1
      unfold numOk
      rw [decide_eq_false (by omega)]
theorem put39b (c : Ch) (hc : c.page.length = 512) (gb base m : Nat) (u : Value) (xs : List UInt8) (w : World) (hr : row w gb [u] 23) (hu : ownsAt w base 5 1 u m (bv xs)) (hgb : gb < base) (hbw : base ≤ w.heap.size) (hm : m ≤ 1000000) :
    Calls Try.prog 39 [.agg (chV c).toArray, .pointer (some ⟨gb, 0, none⟩)].toArray w (Ret fun v w' => v = .bool (numOk c.num) ∧ (∃ u' l4, l4.length = 4 ∧ (0 ≤ c.num → l4 = beB 4 c.num.toNat) ∧ row w' gb [u'] 23 ∧ ownsAt w' base 5 1 u' (m + 516) (bv (xs ++ (l4 ++ c.page)))) ∧ Below gb w w') :=
  (put39 c hc gb base m u xs w hr hu hgb hbw hm).to fun v w' ⟨h1, u', l4, h2, h3, h4, h5, h6⟩ => ⟨h1, ⟨u', l4, h2, h3, h4, h5⟩, h6.os, h6.tape, h6.output, h6.size, fun i hi => h6.block i (Nat.lt_trans hi hr.lt) fun hm => by
    rcases List.mem_cons.1 hm with e | e
    · omega
    · have := (hu.lt i (Option.mem_toList.1 e)).1
      omega⟩
def recB (R : Rec) : List UInt8 := R.flatMap fun c => beB 4 c.num.toNat ++ c.page
theorem recB_len {R : Rec} (h : chsOk R) : (recB R).length = 516 * R.length := by
  induction R with
  | nil => rfl
  | cons c R ih =>
    rw [recB, List.flatMap_cons, List.length_append, List.length_append, beB_length, h c (List.mem_cons_self ..), List.length_cons]
    have := ih fun x hx => h x (List.mem_cons_of_mem _ hx)
    rw [recB] at this
    omega
theorem recB_snoc (R : Rec) (c : Ch) : recB (R ++ [c]) = recB R ++ (beB 4 c.num.toNat ++ c.page) := by rw [recB, List.flatMap_append]; simp [recB]
def mayR (R : Rec) : Bool := decide (1 ≤ R.length ∧ R.length ≤ 60) && R.all fun c => numOk c.num
theorem needW_pos {n : Nat} (h : 1 ≤ n ∧ n ≤ 60) : needW n = (needN (516 * n) : Nat) ∧ 0 < needN (516 * n) := by
  rw [needW, if_pos (by omega), Int.toNat_natCast, Nat.mul_comm n 516]
  exact ⟨rfl, by unfold needN manyN; omega⟩
theorem needW_none {n : Nat} (h : ¬ (1 ≤ n ∧ n ≤ 60)) : needW n = 0 := by rw [needW, if_neg (by omega)]
set_option maxRecDepth 20000 in
set_option maxHeartbeats 1000000 in
theorem bytes9 (R : Rec) (hR : chsOk R) (p : Option Addr) (n cp : Nat) (w : World) (h : SlAt w p n 513 (chsV R)) (hn : R.length = n) (hn2 : n ≤ 1000000) :
    Calls Try.prog 9 [.slice p n cp].toArray w (Ret fun v w' => ((mayR R = true ∧ ∃ g o c, v = .tuple #[.slice (some ⟨g, o, none⟩) (516 * n) c, .int .i64 0] ∧ w.heap.size ≤ g ∧ 516 * n ≤ c ∧ SlAt w' (some ⟨g, o, none⟩) (516 * n) 1 (bv (recB R))) ∨ (mayR R = false ∧ v = .tuple #[.slice none 0 0, .int .i64 2])) ∧ Below w.heap.size w w') := by
  have hB := Below.refl w.heap.size w
  have hml : maxLen = 9223372036854775807 := by decide
  refine calls_W (fn := Try.f9) (rs := [.tmp 2, .tmp 3]) (n := 25) Try.func9 rfl rfl Try.ntmps9 (by kernel_rfl) rfl ?_
  refine W_seq ?_
  refine W_region ?_
  refine WR_val rfl (rn_assign) ?_
  refine WR_val rfl (rn_assign) ?_
  refine WR_nil ?_
  refine thenN ?_
  refine W_seq ?_
  refine W_seq ?_
  refine W_region ?_
  refine WR_val rfl (rn_move) ?_
  refine WR_val rfl (rn_lenSl (e := 90) (sz := 513) (by kernel_rfl) rfl rfl) ?_
  refine WR_ent rfl (rn_call (by kernel_rfl) rfl) (need10 (n : Int) w) ?_
  rintro _ _ ⟨rfl, rfl⟩
  refine WR_val rfl (rn_eql rfl rfl) ?_
  refine WR_nil ?_
  refine thenN ?_
  refine W_ifp rfl (fun h0 => ?_) (fun h0 => ?_)
  ·
    refine W_seq ?_
    refine W_region ?_
    refine WR_val rfl (rn_assign) ?_
    refine WR_val rfl (rn_assign) ?_
    refine WR_nil ?_
    refine thenN ?_
    refine W_ret ?_
    refine thenR ?_
    refine ret_ret [_, _] ⟨rfl, rfl, trivial⟩ ?_
    have hno : ¬ (1 ≤ n ∧ n ≤ 60) := fun hc => by have := needW_pos hc; omega
    exact ⟨.inr ⟨by rw [mayR, hn, decide_eq_false hno]; rfl, rfl⟩, hB⟩
  ·
    have hyes : 1 ≤ n ∧ n ≤ 60 := by
      by_cases hc : 1 ≤ n ∧ n ≤ 60
      · exact hc
      · exact absurd (needW_none hc) h0
    refine W_skip ?_
    refine thenN ?_
    refine W_seq ?_
    refine W_region ?_
    refine WR_mk rfl (mk_alloc ([Value.slice none 0 0]) (by kernel_rfl) (fun g4 w4 hg4 hr4 hb4 => ?_))
    have ge_hB_g4 := Nat.le_trans hB.size hg4
    replace hB := hB.acc hb4
    refine WR_nil ?_
    refine thenN ?_
    refine W_seq ?_
    refine W_region ?_
    refine WR_val rfl (rn_makeFunc) ?_
    refine WR_val rfl (rn_assign) ?_
    refine WR_nil ?_
    refine thenN ?_
    refine W_seq ?_
    refine W_seq ?_
    refine W_region ?_
    refine WR_val rfl (rn_move) ?_
    refine WR_val rfl (rn_lenSl (e := 90) (sz := 513) (by kernel_rfl) rfl rfl) ?_
    refine WR_val rfl (rn_move) ?_
    refine WR_nil ?_
    refine thenN ?_
    refine W_block ?_
    have l4 := hr4.lt
    refine W_loop (α := Nat) 0 (fun k => [(15, .int .i64 (k : Nat)), (14, .int .i64 (n : Int)), (13, .slice p n cp), (5, .func (.func 39) #[] #[.pointer (some ⟨g4, 0, none⟩)]), (4, .pointer (some ⟨g4, 0, none⟩))])
      (fun k w' => k ≤ n ∧ (∃ u, row w' g4 [u] 23 ∧ ownsAt w' (g4 + 1) 5 1 u (516 * k) (bv (recB (R.take k)))) ∧ (∀ j c, j < k → R[j]? = some c → numOk c.num = true) ∧ Below w.heap.size w w') (fun k => n - k)
      ⟨rfl, rfl, rfl, rfl, rfl, rfl⟩ ⟨Nat.zero_le _, ⟨_, hr4, ownsAt_nil _ _ _ _⟩, (by intro j c hj; exact absurd hj (Nat.not_lt_zero _)), hB⟩ ?_
    clear hr4 hB
    rintro k f wr ⟨hk, ⟨u, hr4, hu⟩, hall, hB⟩
    refine W_seq ?_
    refine W_region ?_
    refine WR_val rfl (rn_lss rfl rfl) ?_
    refine WR_nil ?_
    refine thenN ?_
    refine W_seq ?_
    refine W_ifp rfl (fun hlt => ?_) (fun hlt => ?_)
    ·
      refine W_skip ?_
      refine thenN ?_
      refine W_seq ?_
      refine W_block ?_
      refine W_seq ?_
      have hobt : ∃ c, R[k]? = some c := ⟨_, List.getElem?_eq_getElem (by omega)⟩
      obtain ⟨c, hc⟩ := hobt
      have hcl := hR c (List.mem_of_getElem? hc)
      have hchl := chV_len hcl
      have hp := h.below hB (Nat.le_refl _)
      have hobt := h.some (by omega)
      obtain ⟨gp, op, rfl, hgp⟩ := hobt
      have hsn : R.take (k + 1) = R.take k ++ [c] := by rw [List.take_add_one, hc]; rfl
      have hch1 := chV_one c
      have hul := fun b e => (hu.lt b e).2
      refine W_region ?_
      refine WR_val rfl (rn_indexSl (e := 90) (sz := 513) (by kernel_rfl) rfl rfl (k) (by omega) (by omega)) ?_
      refine WR_val rfl (rn_load rfl (ld_ch (h.below hB (Nat.le_refl _)) hR hc)) ?_
      refine WR_mk rfl (mk_alloc (([Value.int .i64 0]) ++ (List.replicate 512 (Value.int .u8 0))) (by kernel_rfl) (fun g7 w7 hg7 hr7 hb7 => ?_))
      have ge_hB_g7 := Nat.le_trans hB.size hg7
      have lt_g4_g7 : g4 < g7 := Nat.lt_of_lt_of_le hr4.lt hg7
      replace hr4 := hr4.new hb7
      replace hu := hu.new hb7
      replace hB := hB.acc hb7
      have hu9 := hu
      refine WR_sk rfl (sk_storeA 513 (chV c) rfl rfl hr7 (by kernel_rfl) (by first | assumption | (simp; done) | (simp [bv_length, *]; done)) (by first | assumption | (simp; done) | (simp [bv_length, *]; done) | rfl) (by first | exact bv_one _ | assumption | (simp [Value.oneCell']; done)) (fun w901 hr7 ho901 => ?_))
      replace hr4 := hr4.only ho901 (Nat.ne_of_lt lt_g4_g7)
      replace hB := ho901.below hB ge_hB_g7
      have hu8 := hu9.kpd (Kp.of_only ho901) (fun b hb e => by have h1 := hul b e; have h2 : b = g7 := (by simpa using hb); omega)
      refine WR_nil ?_
      refine thenN ?_
      refine W_seq ?_
      refine W_region ?_
      refine WR_val rfl (rn_move) ?_
      refine WR_val rfl (rn_load rfl (Ld.rowA (k := 513) hr7 (by kernel_rfl) (by kernel_rfl) (by first | (simp; done) | (simp [bv_length, *]; done) | assumption))) ?_
      have z1 := hr7.lt
      have z2 := hr4.lt
      refine WR_ent rfl (rn_callc (by kernel_rfl) rfl rfl) (put39b c hcl g4 (g4 + 1) (516 * k) u _ w901 hr4 hu8 (by omega) (by omega) (by omega)) ?_
      rintro _ w21 ⟨rfl, ⟨u2, lf, hl41, hl42, hr4, hu2⟩, hb21⟩
      replace hB := belLo hB hb21 (by omega)
      refine WR_val rfl (rn_not rfl) ?_
      refine WR_nil ?_
      refine thenN ?_
      refine W_ifnb rfl (fun hno => ?_) (fun hno => ?_)
      ·
        refine W_seq ?_
        refine W_region ?_
        refine WR_val rfl (rn_assign) ?_
        refine WR_val rfl (rn_assign) ?_
        refine WR_nil ?_
        refine thenN ?_
        refine W_ret ?_
        refine blockR ?_
        refine thenR ?_
        refine loopR ?_
        refine blockR ?_
        refine thenR ?_
        refine ret_ret [_, _] ⟨rfl, rfl, trivial⟩ ?_
        refine ⟨.inr ⟨?_, rfl⟩, hB⟩
        have hf : numOk c.num = false := by cases hx : numOk c.num with | false => rfl | true => simp [hx] at hno
        have hall2 : R.all (fun c => numOk c.num) = false := by
          rw [List.all_eq_false]
          exact ⟨c, List.mem_of_getElem? hc, by rw [hf]; simp⟩
        rw [mayR, hall2, Bool.and_false]
      ·
        have hnc : numOk c.num = true := by cases hx : numOk c.num with | true => rfl | false => simp [hx] at hno
        have hn0 : 0 ≤ c.num := (of_decide_eq_true hnc).1
        rw [hl42 hn0, ← recB_snoc, ← hsn, show 516 * k + 516 = 516 * (k + 1) by omega] at hu2
        refine W_skip ?_
        refine blockN ?_
        refine thenN ?_
        refine W_region ?_
        refine WR_val rfl (rn_add rfl rfl (Coup.w64 (by omega))) ?_
        refine WR_val rfl (rn_move) ?_
        refine WR_nil ?_
        refine loopN ⟨k + 1, by omega, ⟨by go_num, rfl, rfl, rfl, rfl, rfl⟩, by omega, ⟨_, hr4, hu2⟩, fun j d hj hd => ?_, hB⟩
        by_cases hjk : j < k
        · exact hall j d hjk hd
        · obtain rfl : j = k := by omega
          rw [hc] at hd; cases hd
          exact hnc
    ·
      have hkn : k = n := by omega
      rw [hkn, List.take_of_length_le (by omega)] at hu
      have hmay : mayR R = true := by
        rw [mayR, hn, decide_eq_true hyes, Bool.true_and, List.all_eq_true]
        intro c hc
        have hobt := List.getElem?_of_mem hc
        obtain ⟨j, hj⟩ := hobt
        exact hall j c (by have := (List.getElem?_eq_some_iff.1 hj).1; omega) hj
      have hobt := hu.form' (by omega)
      obtain ⟨g, o, c, rfl, hg1, hg2, hg3⟩ := hobt
      have hcap := hu.2
      refine W_exit ?_
      refine thenX ?_
      refine loopX ?_
      refine blockX ?_
      refine thenN ?_
      refine W_seq ?_
      refine W_region ?_
      refine WR_val rfl (rn_load rfl (Ld.row1 hr4 (by kernel_rfl) rfl)) ?_
      refine WR_val rfl (rn_assign) ?_
      refine WR_val rfl (rn_assign) ?_
      refine WR_nil ?_
      refine thenN ?_
      refine W_ret ?_
      refine ret_ret [_, _] ⟨rfl, rfl, trivial⟩ ?_
      refine ⟨.inl ⟨hmay, g, o, c, rfl, by omega, hg3, hu.sl⟩, hB⟩
end Go.Proofs.Ytkkgahgpemepeaa

/- The record of bytes. -/
namespace Go.Proofs.Ytkkgahgpemepeaa
open Go Go.RowKit Coup

def chOf (b : List UInt8) (i : Nat) : Ch := ⟨(numB ((b.drop (516 * i)).take 4) : Nat), (b.drop (516 * i + 4)).take 512⟩
def ofL (b : List UInt8) (n : Nat) : Rec := (List.range n).map (chOf b)
def ofOk (b : List UInt8) : Bool := decide (b.length % 516 = 0) && decide (1 ≤ b.length / 516 ∧ b.length / 516 ≤ 60) && (ofL b (b.length / 516)).all fun c => numOk c.num
def ofR (b : List UInt8) : Option Rec := if ofOk b then some (ofL b (b.length / 516)) else none
theorem ofL_snoc (b : List UInt8) (n : Nat) : ofL b (n + 1) = ofL b n ++ [chOf b n] := by simp [ofL, List.range_succ]
theorem ofL_len (b : List UInt8) (n : Nat) : (ofL b n).length = n := by simp [ofL]
theorem ofL_at (b : List UInt8) {n i : Nat} (h : i < n) : (ofL b n)[i]? = some (chOf b i) := by rw [ofL, List.getElem?_map, List.getElem?_range h]; rfl
theorem chOf_page {b : List UInt8} {i : Nat} (h : 516 * i + 516 ≤ b.length) : (chOf b i).page.length = 512 := by
  show ((b.drop (516 * i + 4)).take 512).length = 512
  rw [List.length_take, List.length_drop]; omega
theorem ofL_ok {b : List UInt8} {n : Nat} (h : 516 * n ≤ b.length) : chsOk (ofL b n) := fun c hc => by
  obtain ⟨i, hi, rfl⟩ := List.mem_map.1 hc
  have := List.mem_range.1 hi
  exact chOf_page (by omega)
theorem rn_buildCh {ρ : Env} {w : World} {d : Option Nat} {ty : TypeId} {pos : String} {af : Array Edge} {gd : Option (Nat × Bool)} {x y : Operand} {a : Int} {l : List UInt8} {L : List Value} (hl : l.length = 512) (hL : chV ⟨a, l⟩ = L) (hx : ev ρ x = .int .i64 a) (hy : ev ρ y = .agg (bv l).toArray) :
    (execOp (ev ρ) ⟨d, .build 90 #[(0, x), (1, y)], ty, pos, af, gd⟩).run Try.prog w = .ok (.value (.agg L.toArray)) w := by
  rw [← hL]
  have h := rn_build (P := Try.prog) (t := 90) (ρ := ρ) (w := w) (d := d) (ty := ty) (pos := pos) (af := af) (gd := gd) (k := 513) (parts := [(0, x), (1, y)]) [(0, .int .i64 a), (1, .agg (bv l).toArray)] [(0, 1), (1, 512)] (by kernel_rfl) (by kernel_rfl) (by simp [hx, hy])
    (by
      intro i hi
      rcases i with _ | _ | i
      · simp [Value.cells]
      · simp [Value.cells, bv_length, hl]
      · exfalso; simp only [List.length_cons, List.length_nil] at hi; omega) (by simp [Value.cells, bv_length, hl])
  rw [h]
  simp [Value.cells, chV]
set_option maxRecDepth 20000 in
set_option maxHeartbeats 1000000 in
theorem of13 (b : List UInt8) (p : Option Addr) (n cp : Nat) (w : World) (h : SlAt w p n 1 (bv b)) (hcp : n ≤ cp) (hn2 : n ≤ 1000000) :
    Calls Try.prog 13 [.slice p n cp].toArray w (Ret fun v w' => ((∃ r g o c, ofR b = some r ∧ v = .tuple #[.slice (some ⟨g, o, none⟩) r.length c, .int .i64 0] ∧ w.heap.size ≤ g ∧ r.length ≤ c ∧ SlAt w' (some ⟨g, o, none⟩) r.length 513 (chsV r)) ∨ (ofR b = none ∧ v = .tuple #[.slice none 0 0, .int .i64 4])) ∧ Below w.heap.size w w') := by
  have hB := Below.refl w.heap.size w
  have hml : maxLen = 9223372036854775807 := by decide
  have hl : b.length = n := by simpa [bv_length] using h.len
  refine calls_W (fn := Try.f13) (rs := [.tmp 2, .tmp 3]) (n := 51) Try.func13 rfl rfl Try.ntmps13 (by kernel_rfl) rfl ?_
  refine W_seq ?_
  refine W_region ?_
  refine WR_val rfl (rn_assign) ?_
  refine WR_val rfl (rn_assign) ?_
  refine WR_nil ?_
  refine thenN ?_
  refine W_seq ?_
  refine W_seq ?_
  refine W_region ?_
  refine WR_val rfl (rn_move) ?_
  refine WR_val rfl (rn_lenSl (e := 5) (sz := 1) (by kernel_rfl) rfl rfl) ?_
  refine WR_val rfl (rn_rem0 rfl rfl (by omega) (by omega)) ?_
  refine WR_val rfl (rn_neq rfl rfl) ?_
  refine WR_val rfl (rn_move) ?_
  refine WR_part 11 rfl (fun h0 => ?_) (fun h0 => ?_)
  ·
    refine WR_no rfl rfl ?_
    refine WR_no rfl rfl ?_
    refine WR_no rfl rfl ?_
    refine WR_no rfl rfl ?_
    refine WR_no rfl rfl ?_
    refine WR_val rfl (rn_pick_t rfl) ?_
    refine WR_nil ?_
    refine thenN ?_
    refine W_tb rfl (rfl) ?_
    refine W_seq ?_
    refine W_region ?_
    refine WR_val rfl (rn_assign) ?_
    refine WR_val rfl (rn_assign) ?_
    refine WR_nil ?_
    refine thenN ?_
    refine W_ret ?_
    refine thenR ?_
    refine ret_ret [_, _] ⟨rfl, rfl, trivial⟩ ?_
    exact ⟨.inr ⟨by rw [ofR, ofOk, hl, decide_eq_false (by omega)]; rfl, rfl⟩, hB⟩
  ·
    refine WR_yes rfl ?_
    refine WR_val rfl (rn_move) ?_
    refine WR_yes rfl ?_
    refine WR_val rfl (rn_lenSl (e := 5) (sz := 1) (by kernel_rfl) rfl rfl) ?_
    refine WR_yes rfl ?_
    refine WR_val rfl (rn_quo0 rfl rfl (by omega) (by omega)) ?_
    refine WR_yes rfl ?_
    refine WR_ent rfl (rn_call (by kernel_rfl) rfl) (need10 ((n : Int) / 516) w) ?_
    rintro _ _ ⟨rfl, rfl⟩
    refine WR_yes rfl ?_
    refine WR_val rfl (rn_eql rfl rfl) ?_
    refine WR_val rfl (rn_pick_f rfl) ?_
    refine WR_nil ?_
    refine thenN ?_
    refine W_ifp rfl (fun h1 => ?_) (fun h1 => ?_)
    ·
      refine W_seq ?_
      refine W_region ?_
      refine WR_val rfl (rn_assign) ?_
      refine WR_val rfl (rn_assign) ?_
      refine WR_nil ?_
      refine thenN ?_
      refine W_ret ?_
      refine thenR ?_
      refine ret_ret [_, _] ⟨rfl, rfl, trivial⟩ ?_
      have hno : ¬ (1 ≤ n / 516 ∧ n / 516 ≤ 60) := fun hc => by have := needW_pos hc; rw [show ((n / 516 : Nat) : Int) = (n : Int) / 516 by omega] at this; omega
      exact ⟨.inr ⟨by rw [ofR, ofOk, hl, decide_eq_false hno]; simp, rfl⟩, hB⟩
    ·
      have hyes : 1 ≤ n / 516 ∧ n / 516 ≤ 60 := by
        by_cases hc : 1 ≤ n / 516 ∧ n / 516 ≤ 60
        · exact hc
        · have := needW_none hc
          rw [show ((n / 516 : Nat) : Int) = (n : Int) / 516 by omega] at this
          exact absurd this h1
      have hob : ∃ m, n = 516 * m := ⟨n / 516, by omega⟩
      obtain ⟨m, hm⟩ := hob
      have hmm : n / 516 = m := by omega
      rw [hmm] at hyes
      refine W_skip ?_
      refine thenN ?_
      refine W_seq ?_
      refine W_region ?_
      refine WR_val rfl (rn_assign) ?_
      refine WR_nil ?_
      refine thenN ?_
      refine W_seq ?_
      refine W_seq ?_
      refine W_region ?_
      refine WR_val rfl (rn_assign) ?_
      refine WR_nil ?_
      refine thenN ?_
      refine W_block ?_
      refine W_loop (α := Nat × Value) (0, .slice none 0 0) (fun k => [(5, .int .i64 ((516 * k.1 : Nat) : Int)), (4, k.2), (0, .slice p n cp)])
        (fun k w' => k.1 ≤ m ∧ ownsAt w' w.heap.size 90 513 k.2 k.1 (chsV (ofL b k.1)) ∧ (∀ j, j < k.1 → numOk (chOf b j).num = true) ∧ Below w.heap.size w w') (fun k => m - k.1)
        ⟨rfl, rfl, rfl, rfl⟩ ⟨Nat.zero_le _, ownsAt_nil _ _ _ _, (by intro j hj; exact absurd hj (Nat.not_lt_zero _)), hB⟩ ?_
      clear hB
      rintro ⟨k, u⟩ f wr ⟨hk, hu, hall, hB⟩
      dsimp only at hk hu hall ⊢
      refine W_seq ?_
      refine W_seq ?_
      refine W_region ?_
      refine WR_val rfl (rn_move) ?_
      refine WR_val rfl (rn_move) ?_
      refine WR_val rfl (rn_lenSl (e := 5) (sz := 1) (by kernel_rfl) rfl rfl) ?_
      refine WR_val rfl (rn_lss rfl rfl) ?_
      refine WR_nil ?_
      refine thenN ?_
      refine W_ifp rfl (fun hlt => ?_) (fun hlt => ?_)
      ·
        refine W_skip ?_
        refine thenN ?_
        refine W_seq ?_
        refine W_block ?_
        refine W_seq ?_
        have hs := h.below hB (Nat.le_refl _)
        have hobt := h.some (by omega)
        obtain ⟨gp, op, rfl, hgp⟩ := hobt
        have hs4 := hs.subB (516 * k) 4 (by omega)
        have hcp2 := chOf_page (b := b) (i := k) (by omega)
        have hobt : ∃ x, numB ((b.drop (516 * k)).take 4) = x := ⟨_, rfl⟩
        obtain ⟨x, hx⟩ := hobt
        have hx4 : x < 4294967296 := by rw [← hx]; exact numB_lt_of _ 4 (by simp; omega)
        have hnu := fun c => number42 (some ⟨gp, op + 516 * k, none⟩) 4 c _ wr hs4 (by omega)
        simp only [hx] at hnu
        refine W_region ?_
        refine WR_val rfl (rn_move) ?_
        refine WR_val rfl (rn_move) ?_
        refine WR_val rfl (rn_move) ?_
        refine WR_val rfl (rn_add rfl rfl (Coup.w64 (by omega))) ?_
        refine WR_val rfl (rn_move) ?_
        refine WR_val rfl (rn_add rfl rfl (Coup.w64 (by omega))) ?_
        refine WR_val rfl (rn_sliceSl1' (e := 5) (516 * k) (516 * k + 4) (516 * k + 4) (4) (by kernel_rfl) rfl ⟨_, _, rfl, by omega⟩ ⟨_, _, rfl, by omega⟩ ⟨_, _, rfl, by omega⟩ (by simp) (by omega) (by omega) (by omega) (by omega) (by omega)) ?_
        refine WR_ent rfl (rn_call (by kernel_rfl) rfl) (hnu _) ?_
        rintro _ _ ⟨rfl, rfl⟩
        refine WR_val rfl (rn_assign) ?_
        refine WR_nil ?_
        refine thenN ?_
        refine W_seq ?_
        refine W_seq ?_
        refine W_region ?_
        refine WR_val rfl (rn_move) ?_
        refine WR_val rfl (rn_geq rfl rfl) ?_
        refine WR_nil ?_
        refine thenN ?_
        refine W_ifp rfl (fun hbig => ?_) (fun hbig => ?_)
        ·
          refine W_seq ?_
          refine W_region ?_
          refine WR_val rfl (rn_assign) ?_
          refine WR_val rfl (rn_assign) ?_
          refine WR_nil ?_
          refine thenN ?_
          refine W_ret ?_
          refine thenR ?_
          refine blockR ?_
          refine thenR ?_
          refine loopR ?_
          refine blockR ?_
          refine thenR ?_
          refine ret_ret [_, _] ⟨rfl, rfl, trivial⟩ ?_
          have hno : ¬ (numOk (chOf b k).num = true) := fun hc => by
            have h1 := (of_decide_eq_true hc).2
            have h2 : (chOf b k).num = (x : Int) := by rw [← hx]; rfl
            omega
          have hof : ofR b = none := by
            have ha : (ofL b (b.length / 516)).all (fun c => numOk c.num) = false := by
              rw [List.all_eq_false]
              exact ⟨chOf b k, List.mem_of_getElem? (ofL_at b (n := b.length / 516) (i := k) (by omega)), hno⟩
            rw [ofR, ofOk, ha, Bool.and_false]; rfl
          exact ⟨.inr ⟨hof, rfl⟩, hB⟩
        ·
          have hnk : numOk (chOf b k).num = true := by
            have h2 : (chOf b k).num = (x : Int) := by rw [← hx]; rfl
            rw [numOk, h2]
            exact decide_eq_true (by omega)
          have hpg : ((bv b).drop (516 * k + 4)).take 512 = bv (chOf b k).page := by rw [← bv_drop, ← bv_take]; rfl
          have hpl : (chOf b k).page.length = 512 := hcp2
          have hchc : chV ⟨(x : Int), (chOf b k).page⟩ = chV (chOf b k) := by rw [← hx]; rfl
          have hld : Ld Try.prog wr 87 ⟨gp, op + (516 * k + 4), none⟩ (.agg (bv (chOf b k).page).toArray) := by
            have h9 := Ld.slN (P := Try.prog) (t := 87) (j := 516 * k + 4) (k := 512) (h.below hB (Nat.le_refl _)) (by kernel_rfl) (by kernel_rfl) (by rw [bv_length]; omega)
            rw [hpg] at h9
            exact h9
          have hofs := ofL_snoc b k
          have hob : ∃ C, chOf b k = C := ⟨_, rfl⟩
          obtain ⟨C, hC⟩ := hob
          rw [hC] at hofs hld hpl hchc hnk
          have hchl := chV_len hpl
          have hch1 := chV_one C
          refine W_skip ?_
          refine thenN ?_
          refine W_region ?_
          refine WR_val rfl (rn_move) ?_
          refine WR_val rfl (rn_move) ?_
          refine WR_val rfl (rn_conv (k := .i64) (by kernel_rfl) (by kernel_rfl) rfl (show IntKind.i64.wrap (x : Int) = (x : Int) by rw [w64 (by omega)])) ?_
          refine WR_val rfl (rn_move) ?_
          refine WR_val rfl (rn_move) ?_
          refine WR_val rfl (rn_add rfl rfl (Coup.w64 (by omega))) ?_
          refine WR_val rfl (rn_move) ?_
          refine WR_val rfl (rn_add rfl rfl (Coup.w64 (by omega))) ?_
          refine WR_val rfl (rn_move) ?_
          refine WR_val rfl (rn_add rfl rfl (Coup.w64 (by omega))) ?_
          refine WR_val rfl (rn_sliceSl1' (e := 5) (516 * k + 4) (516 * k + 516) (516 * k + 516) (512) (by kernel_rfl) rfl ⟨_, _, rfl, by omega⟩ ⟨_, _, rfl, by omega⟩ ⟨_, _, rfl, by omega⟩ (by simp) (by omega) (by omega) (by omega) (by omega) (by omega)) ?_
          refine WR_val rfl (rn_arrayAt (n := 512) (e := 5) (sz := 1) (by kernel_rfl) rfl (by omega)) ?_
          refine WR_val rfl (rn_load rfl (hld)) ?_
          refine WR_val rfl (rn_buildCh hpl hchc rfl rfl) ?_
          refine WR_mk rfl (mk_one (e := 90) (.agg (chV C).toArray) (chV C) (([Value.int .i64 0]) ++ (List.replicate 512 (Value.int .u8 0))) 513 (by kernel_rfl) (by kernel_rfl) rfl rfl (by first | rfl | (simp; done) | (simp [bv_length, *]; done)) ⟨by decide, by decide⟩ (fun g48 w48 hg48 hr48 hb48 => ?_))
          have ge_hB_g48 := Nat.le_trans hB.size hg48
          replace hu := hu.new hb48
          replace hB := hB.acc hb48
          have hs48 := hr48.slA (m := 1) (sz := 513) hchl (by omega)
          have sz_hB_49 := hB.size
          refine WR_mk rfl (mk_append (e := 90) (sz := 513) (bytes := 520) (z := .agg (([Value.int .i64 0]) ++ (List.replicate 512 (Value.int .u8 0))).toArray) (by kernel_rfl) rfl (by kernel_rfl) rfl (by decide) rfl hu rfl hs48 hch1 (by unfold maxLen; omega) (by omega) (fun hm0 => by omega) (fun v49 w49 hv49 hgr49 hfr49 => ?_))
          replace hB := hB.own hu hgr49 (by omega)
          refine WR_val rfl (rn_assign) ?_
          refine WR_nil ?_
          refine blockN ?_
          refine thenN ?_
          refine W_region ?_
          refine WR_val rfl (rn_move) ?_
          refine WR_val rfl (rn_add rfl rfl (Coup.w64 (by omega))) ?_
          refine WR_val rfl (rn_assign) ?_
          refine WR_nil ?_
          rw [← chsV_snoc, ← hofs] at hv49
          refine loopN ⟨(k + 1, v49), by omega, ⟨by go_num, rfl, rfl, rfl⟩, by omega, hv49, fun j hj => ?_, hB⟩
          by_cases hjk : j < k
          · exact hall j hjk
          · obtain rfl : j = k := by omega
            rw [hC]; exact hnk
      ·
        have hkm : k = m := by omega
        subst hkm
        have hof : ofR b = some (ofL b k) := by
          have ha : (ofL b k).all (fun c => numOk c.num) = true := by
            rw [List.all_eq_true]
            intro c hc
            obtain ⟨j, hj, rfl⟩ := List.mem_map.1 hc
            exact hall j (List.mem_range.1 hj)
          rw [ofR, ofOk, hl, hmm, ha, decide_eq_true (by omega : n % 516 = 0), decide_eq_true hyes]; rfl
        have hlen := ofL_len b k
        have hobt := hu.form' (by omega)
        obtain ⟨g, o, c, rfl, hg1, hg2, hg3⟩ := hobt
        refine W_exit ?_
        refine thenX ?_
        refine loopX ?_
        refine blockX ?_
        refine thenN ?_
        refine W_seq ?_
        refine W_region ?_
        refine WR_val rfl (rn_move) ?_
        refine WR_val rfl (rn_assign) ?_
        refine WR_val rfl (rn_assign) ?_
        refine WR_nil ?_
        refine thenN ?_
        refine W_ret ?_
        refine ret_ret [_, _] ⟨rfl, rfl, trivial⟩ ?_
        exact ⟨.inl ⟨_, g, o, c, hof, by rw [hlen]; rfl, hg1, by rw [hlen]; exact hg3, by rw [hlen]; exact hu.sl⟩, hB⟩
end Go.Proofs.Ytkkgahgpemepeaa

/- copy from a string. -/
namespace Coup
open Go Go.RowKit
section
variable {P : Program} {ρ : Env} {w : World} {d : Option Nat} {ty : TypeId} {pos : String} {af : Array Edge} {gd : Option (Nat × Bool)} {K : Value → World → Prop}
theorem mk_copyS {dT sT e : Nat} {x y : Operand} {dLen dCap : Nat} (cs : List UInt8) (hu : P.underlying dT = some (.slice e)) (hsz : sizeIs P e 1 = true) (g off : Nat) (hd : ev ρ x = .slice (some ⟨g, off, none⟩) dLen dCap) (hs : ev ρ y = strOf cs)
    {l : List Value} {t : Nat} (hr : row w g l t) (hle : cs.length ≤ dLen) (hfit : off + cs.length ≤ l.length)
    (h : ∀ w', row w' g (splice l off (bv cs)) t → Only g w w' → K (goInt cs.length) w') : Mk P ρ w ⟨d, .call ⟨.builtin .copy, #[x, y], #[dT, sT]⟩, ty, pos, af, gd⟩ K := by
  have hsize : ByteArray.size ⟨cs.toArray⟩ = cs.length := by simp [ByteArray.size]
  have hrun := Go.Lib.run_copy_row_string (P := P) w dT sT ty e g off dLen dCap ⟨cs.toArray⟩ l.toArray t hu (sizeIs_map hsz) hr (by rw [hsize]; exact hle) (by rw [hsize]; simpa using hfit)
  rw [hsize] at hrun
  have hc : (l.toArray.toList.take off ++ Go.Lib.byteCells (ByteArray.data ⟨cs.toArray⟩).toList ++ l.toArray.toList.drop (off + cs.length)) = splice l off (bv cs) := by
    rw [splice, bv_length, List.append_assoc]
    simp [Go.Lib.byteCells, bv, byteV]
  rw [hc] at hrun
  refine ⟨_, _, ?_, h _ (by simpa [row] using setRow_heap w g _ _ t _ hr) (Only.setRow _)⟩
  simp only [strOf] at hs
  simp [execOp, resolve, invoke, builtin, hd, hs, hrun, Result.andThen]
end
end Coup

/- The head of a log: its sector. -/
namespace Go.Proofs.Ytkkgahgpemepeaa
open Go Go.RowKit Coup

def magic : List UInt8 := [67, 80, 76, 71]
def headB (c s : Nat) : List UInt8 := magic ++ (beB 8 c ++ (beB 8 s ++ zerosB 108))
theorem headB_len (c s : Nat) : (headB c s).length = 128 := by simp [headB, magic, beB_length, zerosB]
def hdF (c s i j : Nat) : UInt8 := if j < 4 then magic.getD j 0 else if j < 12 then (if j - 4 < i then (beB 8 c).getD (j - 4) 0 else 0) else if j < 20 then (if j - 12 < i then (beB 8 s).getD (j - 12) 0 else 0) else 0
def hdL (c s i : Nat) : List UInt8 := (List.range 128).map (hdF c s i)
theorem hdL_get (c s i j : Nat) : (hdL c s i)[j]? = if j < 128 then some (hdF c s i j) else none := by
  rw [hdL, List.getElem?_map]
  by_cases h : j < 128
  · rw [List.getElem?_range h, if_pos h]; rfl
  · rw [List.getElem?_eq_none (by rw [List.length_range]; omega), if_neg h]; rfl
theorem hdL_len (c s i : Nat) : (hdL c s i).length = 128 := by simp [hdL]
theorem getD_be {x j : Nat} (h : j < 8) : (beB 8 x)[j]? = some ((beB 8 x).getD j 0) := by
  rw [List.getD_eq_getElem?_getD, List.getElem?_eq_getElem (by rw [beB_length]; exact h)]; rfl
theorem hdL_end (c s : Nat) : hdL c s 8 = headB c s := by
  refine List.ext_getElem? fun j => ?_
  rw [hdL_get]
  unfold headB hdF
  by_cases h1 : j < 4
  · rw [if_pos (by omega), if_pos h1, List.getElem?_append_left (by simpa [magic] using h1)]
    match j, h1 with
    | 0, _ => rfl
    | 1, _ => rfl
    | 2, _ => rfl
    | 3, _ => rfl
  · rw [List.getElem?_append_right (by simp [magic]; omega), show magic.length = 4 from rfl, if_neg h1]
    by_cases h2 : j < 12
    · rw [if_pos (by omega), if_pos h2, if_pos (by omega), List.getElem?_append_left (by rw [beB_length]; omega), getD_be (by omega)]
    · rw [if_neg h2, List.getElem?_append_right (by rw [beB_length]; omega), beB_length, show j - 4 - 8 = j - 12 by omega]
      by_cases h3 : j < 20
      · rw [if_pos (by omega), if_pos h3, if_pos (by omega), List.getElem?_append_left (by rw [beB_length]; omega), getD_be (by omega)]
      · rw [if_neg h3, List.getElem?_append_right (by rw [beB_length]; omega), beB_length]
        by_cases h4 : j < 128
        · rw [if_pos h4, zerosB, List.getElem?_replicate, if_pos (by omega)]
        · rw [if_neg h4, zerosB, List.getElem?_replicate, if_neg (by omega)]
theorem hdL_start (c s : Nat) : splice (List.replicate 128 (Value.int .u8 0)) 0 (bv magic) = bv (hdL c s 0) := by
  have e : splice (List.replicate 128 (Value.int .u8 0)) 0 (bv magic) = bv (magic ++ zerosB 124) := by
    simp only [splice, List.take_zero, List.nil_append, Nat.zero_add, bv_length, bv_append, bv_zeros]
    rw [show magic.length = 4 from rfl, List.drop_replicate]; rfl
  rw [e]
  congr 1
theorem hdL_step (c s i : Nat) (h : i < 8) : ((hdL c s i).set (4 + i) ((beB 8 c).getD i 0)).set (12 + i) ((beB 8 s).getD i 0) = hdL c s (i + 1) := by
  refine List.ext_getElem? fun j => ?_
  rw [List.getElem?_set, List.length_set, hdL_len, List.getElem?_set, hdL_len, hdL_get, hdL_get]
  unfold hdF
  by_cases h1 : 12 + i = j
  · subst h1
    rw [if_pos rfl, if_pos (by omega), if_pos (by omega), if_neg (by omega), if_neg (by omega), if_pos (by omega), if_pos (by omega), Nat.add_sub_cancel_left]
  · rw [if_neg h1]
    by_cases h2 : 4 + i = j
    · subst h2
      rw [if_pos rfl, if_pos (by omega), if_pos (by omega), if_neg (by omega), if_pos (by omega), if_pos (by omega), Nat.add_sub_cancel_left]
    · rw [if_neg h2]
      by_cases h3 : j < 128
      · rw [if_pos h3, if_pos h3]
        congr 1
        by_cases h4 : j < 4
        · rw [if_pos h4, if_pos h4]
        · rw [if_neg h4, if_neg h4]
          by_cases h5 : j < 12
          · rw [if_pos h5, if_pos h5]
            by_cases h6 : j - 4 < i
            · rw [if_pos h6, if_pos (by omega)]
            · rw [if_neg h6, if_neg (by omega)]
          · rw [if_neg h5, if_neg h5]
            by_cases h7 : j < 20
            · rw [if_pos h7, if_pos h7]
              by_cases h6 : j - 12 < i
              · rw [if_pos h6, if_pos (by omega)]
              · rw [if_neg h6, if_neg (by omega)]
            · rw [if_neg h7, if_neg h7]
      · rw [if_neg h3, if_neg h3]
theorem be_byte {x i : Nat} (h : i < 8) (s : Int) (hs : s = ((56 - 8 * i : Nat) : Int)) : IntKind.u8.wrap ((x : Int) / 2 ^ (56 - 8 * i)) = (((beB 8 x).getD i 0).toNat : Int) := by
  have h1 := shr_byte x (8 - 1 - i)
  rw [List.getD_eq_getElem?_getD, beB_get 8 x i h]
  rw [show 56 - 8 * i = 8 * (8 - 1 - i) by omega, IntKind.wrap_u8]
  injection h1
theorem set_bv (l : List UInt8) (i : Nat) (b : UInt8) : (bv l).set i (.int .u8 (b.toNat : Int)) = bv (l.set i b) := by simp [bv, List.map_set, byteV]
set_option maxRecDepth 20000 in
set_option maxHeartbeats 1000000 in
theorem sector72 (c s : Nat) (w : World) (hc : c < 18446744073709551616) (hs : s < 18446744073709551616) :
    Calls Try.prog 72 [.agg #[.int .u64 c, .int .u64 s]].toArray w (Ret fun v w' => v = .agg (bv (headB c s)).toArray ∧ Below w.heap.size w w') := by
  have hB := Below.refl w.heap.size w
  refine calls_W (fn := Try.f72) (rs := [.cell 2 63]) (n := 31) Try.func72 rfl rfl Try.ntmps72 (by kernel_rfl) rfl ?_
  refine W_seq ?_
  refine W_region ?_
  refine WR_mk rfl (mk_box ([.int .u64 c, .int .u64 s]) rfl (fun g1 w1 hg1 hr1 hb1 => ?_))
  have ge_hB_g1 := Nat.le_trans hB.size hg1
  replace hB := hB.acc hb1
  refine WR_mk rfl (mk_alloc (List.replicate 128 (Value.int .u8 0)) (by kernel_rfl) (fun g2 w2 hg2 hr2 hb2 => ?_))
  have ge_hB_g2 := Nat.le_trans hB.size hg2
  have lt_g1_g2 : g1 < g2 := Nat.lt_of_lt_of_le hr1.lt hg2
  replace hr1 := hr1.new hb2
  replace hB := hB.acc hb2
  refine WR_nil ?_
  refine thenN ?_
  refine W_seq ?_
  refine W_region ?_
  refine WR_val rfl (rn_sliceAr1' (e := 5) (n := 128) (0) (128) (128) (128) (by kernel_rfl) rfl rfl rfl rfl (by simp) (by omega) (by omega) (by omega) (by omega) (by omega)) ?_
  refine WR_mk rfl (mk_copyS (e := 5) magic (by kernel_rfl) (by kernel_rfl) g2 0 rfl rfl hr2 (by decide) (by simp [magic]) (fun w5 hr2 ho5 => ?_))
  replace hr1 := hr1.only ho5 (Nat.ne_of_lt lt_g1_g2)
  replace hB := ho5.below hB ge_hB_g2
  rw [hdL_start c s] at hr2
  refine WR_nil ?_
  refine thenN ?_
  refine W_seq ?_
  refine W_seq ?_
  refine W_region ?_
  refine WR_val rfl (rn_move) ?_
  refine WR_nil ?_
  refine thenN ?_
  refine W_block ?_
  refine W_loop (α := Nat) 0 (fun i => [(6, .int .i64 (i : Nat)), (1, .pointer (some ⟨g1, 0, none⟩)), (2, .pointer (some ⟨g2, 0, none⟩))])
    (fun i w' => i ≤ 8 ∧ row w' g1 [.int .u64 c, .int .u64 s] 41 ∧ row w' g2 (bv (hdL c s i)) 63 ∧ Below w.heap.size w w') (fun i => 8 - i)
    ⟨rfl, rfl, rfl, rfl⟩ ⟨Nat.zero_le _, hr1, hr2, hB⟩ ?_
  clear hr1 hr2 hB
  rintro i f wr ⟨hi, hr1, hr2, hB⟩
  have hne : g1 ≠ g2 := by omega
  have hll : (bv (hdL c s i)).length = 128 := by rw [bv_length]; exact hdL_len _ _ _
  refine W_seq ?_
  refine W_region ?_
  refine WR_val rfl (rn_lss rfl rfl) ?_
  refine WR_nil ?_
  refine thenN ?_
  refine W_seq ?_
  refine W_ifp rfl (fun hlt => ?_) (fun hlt => ?_)
  ·
    refine W_skip ?_
    refine thenN ?_
    refine W_seq ?_
    refine W_block ?_
    refine W_seq ?_
    refine W_region ?_
    refine WR_val rfl (rn_move) ?_
    refine WR_val rfl (rn_assign) ?_
    refine WR_nil ?_
    refine thenN ?_
    have hob : ∃ L, hdL c s i = L := ⟨_, rfl⟩
    obtain ⟨L, hL⟩ := hob
    have hbc := be_byte (x := c) (i := i) (by omega) _ rfl
    have hbs := be_byte (x := s) (i := i) (by omega) _ rfl
    have hst := hdL_step c s i (by omega)
    have hLl : L.length = 128 := by rw [← hL]; exact hdL_len _ _ _
    rw [hL] at hr2 hll hst
    refine W_draw' [g2] (by kernel_rfl) ?_
    intro w901 hb901 hS901
    replace hr1 := hr1.new hb901
    replace hr2 := hr2.new hb901
    replace hB := hB.acc hb901
    have hr1_d901 := hr1
    have hr2_d901 := hr2
    have hB_d901 := hB
    refine WA_take 0 (by kernel_rfl) rfl (fun _ _ => rn_move) ?_
    refine WA_take 1 (by kernel_rfl) rfl (fun _ _ => rn_add rfl rfl (Coup.w64 (by omega))) ?_
    refine WA_take 2 (by kernel_rfl) rfl (fun _ _ => rn_move) ?_
    refine WA_take 3 (by kernel_rfl) rfl (fun _ _ => rn_add rfl rfl (Coup.w64 (by omega))) ?_
    refine WA_take 4 (by kernel_rfl) rfl (fun _ _ => rn_fieldAddr (off := 0) (by kernel_rfl) rfl) ?_
    refine WA_take 5 (by kernel_rfl) rfl (fun w' hS' => rn_load rfl (Ld.row1 (hr1_d901.kpd hS' (by first | (simp; done) | (simp; omega) | (simp [*]; done) | exact notLL (Or.inl (by omega)) | exact notLL (Or.inr (by simp)) | exact fun g hm => Nat.le_trans (by omega) (inLL hm).1 | (intro b o e; cases e; exact notLL (Or.inl (by omega))) | (intro b hm; have := (hu.lt b (Option.mem_toList.1 hm)).1; omega) | (intro b o e; cases e; intro hm; have := (hu.lt _ (Option.mem_toList.1 hm)).1; omega))) (by kernel_rfl) rfl)) ?_
    refine WA_take 6 (by kernel_rfl) rfl (fun _ _ => rn_move) ?_
    refine WA_take 7 (by kernel_rfl) rfl (fun _ _ => rn_mul rfl rfl (Coup.w64 (by omega))) ?_
    refine WA_take 8 (by kernel_rfl) rfl (fun _ _ => rn_sub rfl rfl (Coup.w64 (by omega))) ?_
    refine WA_take 9 (by kernel_rfl) rfl (fun _ _ => rn_shr rfl rfl (by omega) (shrN (56 - 8 * i) (by omega) (by omega))) ?_
    refine WA_take 10 (by kernel_rfl) rfl (fun _ _ => rn_conv (k := .u8) (by kernel_rfl) (by kernel_rfl) rfl hbc) ?_
    refine WA_take 11 (by kernel_rfl) rfl (fun _ _ => rn_fieldAddr (off := 1) (by kernel_rfl) rfl) ?_
    refine WA_take 12 (by kernel_rfl) rfl (fun w' hS' => rn_load rfl (Ld.row1 (hr1_d901.kpd hS' (by first | (simp; done) | (simp; omega) | (simp [*]; done) | exact notLL (Or.inl (by omega)) | exact notLL (Or.inr (by simp)) | exact fun g hm => Nat.le_trans (by omega) (inLL hm).1 | (intro b o e; cases e; exact notLL (Or.inl (by omega))) | (intro b hm; have := (hu.lt b (Option.mem_toList.1 hm)).1; omega) | (intro b o e; cases e; intro hm; have := (hu.lt _ (Option.mem_toList.1 hm)).1; omega))) (by kernel_rfl) rfl)) ?_
    refine WA_take 13 (by kernel_rfl) rfl (fun _ _ => rn_move) ?_
    refine WA_take 14 (by kernel_rfl) rfl (fun _ _ => rn_mul rfl rfl (Coup.w64 (by omega))) ?_
    refine WA_take 15 (by kernel_rfl) rfl (fun _ _ => rn_sub rfl rfl (Coup.w64 (by omega))) ?_
    refine WA_take 16 (by kernel_rfl) rfl (fun _ _ => rn_shr rfl rfl (by omega) (shrN (56 - 8 * i) (by omega) (by omega))) ?_
    refine WA_take 17 (by kernel_rfl) rfl (fun _ _ => rn_conv (k := .u8) (by kernel_rfl) (by kernel_rfl) rfl hbs) ?_
    refine WA_take 18 (by kernel_rfl) rfl (fun _ _ => rn_indexAr1 (e := 5) (m := 128) (by kernel_rfl) rfl rfl (4 + i) (by omega) (by omega)) ?_
    refine WA_one 19 (by kernel_rfl) ?_
    refine WO_sk rfl rfl (sk_store1 rfl rfl rfl rfl hr2 (by kernel_rfl) (by first | (simp only [List.length_replicate]; omega) | (simp only [iv_length]; omega) | (simp only [bv_length, List.length_set]; omega) | simp) (fun w903 hr2 ho903 => ?_))
    have hS902 := hS901.add1 ho903 (by first | (left; omega) | (right; simp; done) | (right; simp; omega))
    refine ⟨hS902, ?_⟩
    replace hr1 := hr1.only ho903 (Nat.ne_of_lt lt_g1_g2)
    replace hB := ho903.below hB ge_hB_g2
    refine WA_take 20 (by kernel_rfl) rfl (fun _ _ => rn_indexAr1 (e := 5) (m := 128) (by kernel_rfl) rfl rfl (12 + i) (by omega) (by omega)) ?_
    refine WA_one 21 (by kernel_rfl) ?_
    refine WO_sk rfl rfl (sk_store1 rfl rfl rfl rfl hr2 (by kernel_rfl) (by first | (simp only [List.length_replicate]; omega) | (simp only [iv_length]; omega) | (simp only [bv_length, List.length_set]; omega) | simp) (fun w905 hr2 ho905 => ?_))
    have hS904 := hS902.add1 ho905 (by first | (left; omega) | (right; simp; done) | (right; simp; omega))
    refine ⟨hS904, ?_⟩
    replace hr1 := hr1.only ho905 (Nat.ne_of_lt lt_g1_g2)
    replace hB := ho905.below hB ge_hB_g2
    refine WA_done (by kernel_rfl) ?_
    refine blockN ?_
    refine thenN ?_
    refine W_region ?_
    refine WR_val rfl (rn_add rfl rfl (Coup.w64 (by omega))) ?_
    refine WR_val rfl (rn_move) ?_
    refine WR_nil ?_
    have hq : row w905 g2 (((bv L).set (0 + (4 + i)) (.int .u8 (((beB 8 c).getD i 0).toNat : Int))).set (0 + (12 + i)) (.int .u8 (((beB 8 s).getD i 0).toNat : Int))) 63 := hr2
    rw [Nat.zero_add, Nat.zero_add, set_bv, set_bv, hst] at hq
    refine loopN ⟨i + 1, by omega, ⟨by go_num, rfl, rfl, rfl⟩, by omega, hr1, hq, hB⟩
  ·
    have h8 : i = 8 := by omega
    subst h8
    rw [hdL_end] at hr2
    rw [hdL_end] at hll
    have hob : ∃ L, headB c s = L := ⟨_, rfl⟩
    obtain ⟨L, hL⟩ := hob
    rw [hL] at hr2 hll
    rw [hL]
    refine W_exit ?_
    refine thenX ?_
    refine loopX ?_
    refine blockX ?_
    refine thenN ?_
    refine W_seq ?_
    refine W_region ?_
    refine WR_val rfl (rn_load rfl (Ld.rowA (k := 128) hr2 (by kernel_rfl) (by kernel_rfl) (by first | (simp; done) | (simp [bv_length, *]; done) | assumption))) ?_
    refine WR_sk rfl (sk_storeA 128 (bv L) rfl rfl hr2 (by kernel_rfl) (by first | assumption | (simp; done) | (simp [bv_length, *]; done)) (by first | assumption | (simp; done) | (simp [bv_length, *]; done) | rfl) (by first | exact bv_one _ | assumption | (simp [Value.oneCell']; done)) (fun w906 hr2 ho906 => ?_))
    replace hr1 := hr1.only ho906 (Nat.ne_of_lt lt_g1_g2)
    replace hB := ho906.below hB ge_hB_g2
    refine WR_nil ?_
    refine thenN ?_
    refine W_ret ?_
    refine ret_ret [_] ⟨⟨_, rfl, Ld.rowA (k := 128) hr2 (by kernel_rfl) (by kernel_rfl) (by first | (simp; done) | (simp [bv_length, *]; done) | assumption)⟩, trivial⟩ ?_
    exact ⟨rfl, hB⟩
end Go.Proofs.Ytkkgahgpemepeaa

/- A sector's head; may a log lie on a disk; a head saved. -/
namespace Go.Proofs.Ytkkgahgpemepeaa
open Go Go.RowKit Coup

def hdC (s : List UInt8) : Nat := numB ((s.drop 4).take 8)
def hdS (s : List UInt8) : Nat := numB ((s.drop 12).take 8)
def hdIs (s : List UInt8) : Bool := decide (tornB s zeroS = headB (hdC s) (hdS s)) && decide (1 ≤ hdS s) && decide (hdS s ≤ hdC s) && decide (hdC s ≤ 4611686018427387904)
theorem torn23w (a b : List UInt8) (ha : a.length = 128) (hb : b.length = 128) (w : World) : Calls Try.prog 71 [.agg (bv a).toArray, .agg (bv b).toArray].toArray w (Ret fun v w' => v = .agg (bv (tornB a b)).toArray ∧ Below w.heap.size w w') := calls_ret (torn23 a b ha hb w)
set_option maxRecDepth 20000 in
set_option maxHeartbeats 1000000 in
theorem headOf51 (s : List UInt8) (w : World) (hs : s.length = 128) :
    Calls Try.prog 51 [.agg (bv s).toArray].toArray w (Ret fun v w' => v = .tuple #[.agg #[.int .u64 (hdC s), .int .u64 (hdS s)], .bool (hdIs s)] ∧ Below w.heap.size w w') := by
  have hB := Below.refl w.heap.size w
  have hml : maxLen = 9223372036854775807 := by decide
  have hsl : (bv s).length = 128 := by rw [bv_length]; exact hs
  have hc8 : hdC s < 18446744073709551616 := numB_lt_of _ 8 (by simp; omega)
  have hs8 : hdS s < 18446744073709551616 := numB_lt_of _ 8 (by simp; omega)
  obtain ⟨Z, hzz, hzb, hzl⟩ := zeroSQ
  refine calls_W (fn := Try.f51) (rs := [.cell 2 41, .tmp 3]) (n := 36) Try.func51 rfl rfl Try.ntmps51 (by kernel_rfl) rfl ?_
  refine W_seq ?_
  refine W_region ?_
  refine WR_mk rfl (mk_box ((bv s)) rfl (fun g1 w1 hg1 hr1 hb1 => ?_))
  have ge_hB_g1 := Nat.le_trans hB.size hg1
  replace hB := hB.acc hb1
  refine WR_mk rfl (mk_alloc ([Value.int .u64 0, Value.int .u64 0]) (by kernel_rfl) (fun g2 w2 hg2 hr2 hb2 => ?_))
  have ge_hB_g2 := Nat.le_trans hB.size hg2
  have lt_g1_g2 : g1 < g2 := Nat.lt_of_lt_of_le hr1.lt hg2
  replace hr1 := hr1.new hb2
  replace hB := hB.acc hb2
  refine WR_val rfl (rn_assign) ?_
  refine WR_nil ?_
  refine thenN ?_
  refine W_seq ?_
  refine W_draw' [] (by kernel_rfl) ?_
  intro w901 hb901 hS901
  replace hr1 := hr1.new hb901
  replace hr2 := hr2.new hb901
  replace hB := hB.acc hb901
  have hr1_d901 := hr1
  have hr2_d901 := hr2
  have hB_d901 := hB
  refine WA_take 0 (by kernel_rfl) rfl (fun _ _ => rn_sliceAr1' (e := 5) (n := 128) (4) (12) (128) (8) (by kernel_rfl) rfl ⟨_, _, rfl, rfl⟩ ⟨_, _, rfl, rfl⟩ rfl (by simp) (by omega) (by omega) (by omega) (by omega) (by omega)) ?_
  refine WA_call 1 (by kernel_rfl) rfl (fun _ => rn_call (by kernel_rfl) rfl) (fun w' hS' => number42 _ 8 _ _ w' ((hr1_d901.kpd hS' (by first | (simp; done) | (simp; omega) | (simp [*]; done) | exact notLL (Or.inl (by omega)) | exact notLL (Or.inr (by simp)) | exact fun g hm => Nat.le_trans (by omega) (inLL hm).1 | (intro b o e; cases e; exact notLL (Or.inl (by omega))) | (intro b hm; have := (hu.lt b (Option.mem_toList.1 hm)).1; omega) | (intro b o e; cases e; intro hm; have := (hu.lt _ (Option.mem_toList.1 hm)).1; omega))).slB 4 8 (by omega) (by omega)) (by omega)) ?_
  refine WA_take 2 (by kernel_rfl) rfl (fun _ _ => rn_sliceAr1' (e := 5) (n := 128) (12) (20) (128) (8) (by kernel_rfl) rfl ⟨_, _, rfl, rfl⟩ ⟨_, _, rfl, rfl⟩ rfl (by simp) (by omega) (by omega) (by omega) (by omega) (by omega)) ?_
  refine WA_call 3 (by kernel_rfl) rfl (fun _ => rn_call (by kernel_rfl) rfl) (fun w' hS' => number42 _ 8 _ _ w' ((hr1_d901.kpd hS' (by first | (simp; done) | (simp; omega) | (simp [*]; done) | exact notLL (Or.inl (by omega)) | exact notLL (Or.inr (by simp)) | exact fun g hm => Nat.le_trans (by omega) (inLL hm).1 | (intro b o e; cases e; exact notLL (Or.inl (by omega))) | (intro b hm; have := (hu.lt b (Option.mem_toList.1 hm)).1; omega) | (intro b o e; cases e; intro hm; have := (hu.lt _ (Option.mem_toList.1 hm)).1; omega))).slB 12 8 (by omega) (by omega)) (by omega)) ?_
  refine WA_take 4 (by kernel_rfl) rfl (fun _ _ => rn_pair (k0 := .u64) (k1 := .u64) (by kernel_rfl) (by kernel_rfl) rfl rfl) ?_
  refine WA_one 5 (by kernel_rfl) ?_
  refine WO_mk rfl rfl (mk_alloc ([Value.int .u64 0, Value.int .u64 0]) (by kernel_rfl) (fun g4 w4 hg4 hr4 hb4 => ?_))
  have hS902 := hS901.add0 hb4
  refine ⟨hS902, ?_⟩
  have ge_hS901_g4 := Nat.le_trans hS901.size hg4
  have ge_hB_g4 := Nat.le_trans hB.size hg4
  have lt_g1_g4 : g1 < g4 := Nat.lt_of_lt_of_le hr1.lt hg4
  have lt_g2_g4 : g2 < g4 := Nat.lt_of_lt_of_le hr2.lt hg4
  replace hr1 := hr1.new hb4
  replace hr2 := hr2.new hb4
  replace hB := hB.acc hb4
  refine WA_one 6 (by kernel_rfl) ?_
  refine WO_sk rfl rfl (sk_storeA 2 ([.int .u64 (hdC s), .int .u64 (hdS s)]) rfl rfl hr4 (by kernel_rfl) (by first | assumption | (simp; done) | (simp [bv_length, *]; done)) (by first | assumption | (simp; done) | (simp [bv_length, *]; done) | rfl) (by first | exact bv_one _ | assumption | (simp [Value.oneCell']; done)) (fun w904 hr4 ho904 => ?_))
  have hS903 := hS902.add1 ho904 (by first | (left; omega) | (right; simp; done) | (right; simp; omega))
  refine ⟨hS903, ?_⟩
  replace hr1 := hr1.only ho904 (Nat.ne_of_lt lt_g1_g4)
  replace hr2 := hr2.only ho904 (Nat.ne_of_lt lt_g2_g4)
  replace hB := ho904.below hB ge_hB_g4
  refine WA_done (by kernel_rfl) ?_
  refine thenN ?_
  refine W_seq ?_
  refine W_draw' [] (by kernel_rfl) ?_
  intro w905 hb905 hS905
  replace hr1 := hr1.new hb905
  replace hr2 := hr2.new hb905
  replace hr4 := hr4.new hb905
  replace hB := hB.acc hb905
  have hr1_d905 := hr1
  have hr2_d905 := hr2
  have hr4_d905 := hr4
  have hB_d905 := hB
  refine WA_take 0 (by kernel_rfl) rfl (fun w' hS' => rn_load rfl (Ld.rowA (k := 128) (hr1_d905.kpd hS' (by first | (simp; done) | (simp; omega) | (simp [*]; done) | exact notLL (Or.inl (by omega)) | exact notLL (Or.inr (by simp)) | exact fun g hm => Nat.le_trans (by omega) (inLL hm).1 | (intro b o e; cases e; exact notLL (Or.inl (by omega))) | (intro b hm; have := (hu.lt b (Option.mem_toList.1 hm)).1; omega) | (intro b o e; cases e; intro hm; have := (hu.lt _ (Option.mem_toList.1 hm)).1; omega))) (by kernel_rfl) (by kernel_rfl) (by first | (simp; done) | (simp [bv_length, *]; done) | assumption))) ?_
  refine WA_take 1 (by kernel_rfl) rfl (fun _ _ => rn_zeroed (bv Z) (by rw [← hzb]; kernel_rfl)) ?_
  refine WA_take 3 (by kernel_rfl) rfl (fun w' hS' => rn_load rfl (Ld.rowA (k := 2) (hr4_d905.kpd hS' (by first | (simp; done) | (simp; omega) | (simp [*]; done) | exact notLL (Or.inl (by omega)) | exact notLL (Or.inr (by simp)) | exact fun g hm => Nat.le_trans (by omega) (inLL hm).1 | (intro b o e; cases e; exact notLL (Or.inl (by omega))) | (intro b hm; have := (hu.lt b (Option.mem_toList.1 hm)).1; omega) | (intro b o e; cases e; intro hm; have := (hu.lt _ (Option.mem_toList.1 hm)).1; omega))) (by kernel_rfl) (by kernel_rfl) (by first | (simp; done) | (simp [bv_length, *]; done) | assumption))) ?_
  refine WA_one 2 (by kernel_rfl) ?_
  have hZl : Z.length = 128 := by rw [← bv_length]; exact hzl
  have hT := fun w' => torn23w s Z hs hZl w'
  have hTl := tornB_length s Z hs hZl
  have hSc := fun w' => sector72 (hdC s) (hdS s) w' hc8 hs8
  have hSl := headB_len (hdC s) (hdS s)
  have hob : ∃ T, tornB s Z = T := ⟨_, rfl⟩
  obtain ⟨T, hTe⟩ := hob
  have hob : ∃ H, headB (hdC s) (hdS s) = H := ⟨_, rfl⟩
  obtain ⟨H, hHe⟩ := hob
  rw [hTe] at hT hTl
  rw [hHe] at hSc hSl
  have hie : hdIs s = (decide (T = H) && decide (1 ≤ hdS s) && decide (hdS s ≤ hdC s) && decide (hdC s ≤ 4611686018427387904)) := by rw [hdIs, hzz, hTe, hHe]
  refine WO_ent rfl rfl (rn_call (by kernel_rfl) rfl) (hT w905) ?_
  rintro _ w13 ⟨rfl, hb13⟩
  have hS906 := hS905.add0 hb13
  refine ⟨hS906, ?_⟩
  replace hr1 := hr1.new hb13
  replace hr2 := hr2.new hb13
  replace hr4 := hr4.new hb13
  replace hB := hB.acc hb13
  refine WA_one 4 (by kernel_rfl) ?_
  refine WO_ent rfl rfl (rn_call (by kernel_rfl) rfl) (hSc w13) ?_
  rintro _ w15 ⟨rfl, hb15⟩
  have hS907 := hS906.add0 hb15
  refine ⟨hS907, ?_⟩
  replace hr1 := hr1.new hb15
  replace hr2 := hr2.new hb15
  replace hr4 := hr4.new hb15
  replace hB := hB.acc hb15
  refine WA_take 5 (by kernel_rfl) rfl (fun _ _ => rn_eqlA (n := 128) (by kernel_rfl) rfl rfl hTl hSl) ?_
  refine WA_take 6 (by kernel_rfl) rfl (fun _ _ => rn_move) ?_
  refine WA_part 17 rfl (fun hq1 => ?_) (fun hq1 => ?_)
  ·
    refine WA_take 7 (by kernel_rfl) rfl (fun _ _ => rn_fieldAddr (off := 1) (by kernel_rfl) rfl) ?_
    refine WA_take 8 (by kernel_rfl) rfl (fun w' hS' => rn_load rfl (Ld.row1 (hr4_d905.kpd hS' (by first | (simp; done) | (simp; omega) | (simp [*]; done) | exact notLL (Or.inl (by omega)) | exact notLL (Or.inr (by simp)) | exact fun g hm => Nat.le_trans (by omega) (inLL hm).1 | (intro b o e; cases e; exact notLL (Or.inl (by omega))) | (intro b hm; have := (hu.lt b (Option.mem_toList.1 hm)).1; omega) | (intro b o e; cases e; intro hm; have := (hu.lt _ (Option.mem_toList.1 hm)).1; omega))) (by kernel_rfl) rfl)) ?_
    refine WA_take 9 (by kernel_rfl) rfl (fun _ _ => rn_geq rfl rfl) ?_
    refine WA_take 10 (by kernel_rfl) rfl (fun _ _ => rn_pick_t rfl) ?_
    refine WA_take 11 (by kernel_rfl) rfl (fun _ _ => rn_move) ?_
    refine WA_part 22 rfl (fun hq2 => ?_) (fun hq2 => ?_)
    ·
      refine WA_take 12 (by kernel_rfl) rfl (fun _ _ => rn_fieldAddr (off := 1) (by kernel_rfl) rfl) ?_
      refine WA_take 13 (by kernel_rfl) rfl (fun w' hS' => rn_load rfl (Ld.row1 (hr4_d905.kpd hS' (by first | (simp; done) | (simp; omega) | (simp [*]; done) | exact notLL (Or.inl (by omega)) | exact notLL (Or.inr (by simp)) | exact fun g hm => Nat.le_trans (by omega) (inLL hm).1 | (intro b o e; cases e; exact notLL (Or.inl (by omega))) | (intro b hm; have := (hu.lt b (Option.mem_toList.1 hm)).1; omega) | (intro b o e; cases e; intro hm; have := (hu.lt _ (Option.mem_toList.1 hm)).1; omega))) (by kernel_rfl) rfl)) ?_
      refine WA_take 14 (by kernel_rfl) rfl (fun _ _ => rn_fieldAddr (off := 0) (by kernel_rfl) rfl) ?_
      refine WA_take 15 (by kernel_rfl) rfl (fun w' hS' => rn_load rfl (Ld.row1 (hr4_d905.kpd hS' (by first | (simp; done) | (simp; omega) | (simp [*]; done) | exact notLL (Or.inl (by omega)) | exact notLL (Or.inr (by simp)) | exact fun g hm => Nat.le_trans (by omega) (inLL hm).1 | (intro b o e; cases e; exact notLL (Or.inl (by omega))) | (intro b hm; have := (hu.lt b (Option.mem_toList.1 hm)).1; omega) | (intro b o e; cases e; intro hm; have := (hu.lt _ (Option.mem_toList.1 hm)).1; omega))) (by kernel_rfl) rfl)) ?_
      refine WA_take 16 (by kernel_rfl) rfl (fun _ _ => rn_leq rfl rfl) ?_
      refine WA_take 17 (by kernel_rfl) rfl (fun _ _ => rn_pick_t rfl) ?_
      refine WA_take 18 (by kernel_rfl) rfl (fun _ _ => rn_move) ?_
      refine WA_part 29 rfl (fun hq3 => ?_) (fun hq3 => ?_)
      ·
        refine WA_take 19 (by kernel_rfl) rfl (fun _ _ => rn_fieldAddr (off := 0) (by kernel_rfl) rfl) ?_
        refine WA_take 20 (by kernel_rfl) rfl (fun w' hS' => rn_load rfl (Ld.row1 (hr4_d905.kpd hS' (by first | (simp; done) | (simp; omega) | (simp [*]; done) | exact notLL (Or.inl (by omega)) | exact notLL (Or.inr (by simp)) | exact fun g hm => Nat.le_trans (by omega) (inLL hm).1 | (intro b o e; cases e; exact notLL (Or.inl (by omega))) | (intro b hm; have := (hu.lt b (Option.mem_toList.1 hm)).1; omega) | (intro b o e; cases e; intro hm; have := (hu.lt _ (Option.mem_toList.1 hm)).1; omega))) (by kernel_rfl) rfl)) ?_
        refine WA_take 21 (by kernel_rfl) rfl (fun _ _ => rn_leq rfl rfl) ?_
        refine WA_take 22 (by kernel_rfl) rfl (fun _ _ => rn_pick_t rfl) ?_
        refine WA_take 23 (by kernel_rfl) rfl (fun _ _ => rn_assign) ?_
        refine WA_done (by kernel_rfl) ?_
        refine thenN ?_
        refine W_seq ?_
        refine W_region ?_
        refine WR_val rfl (rn_load rfl (Ld.rowA (k := 2) hr4 (by kernel_rfl) (by kernel_rfl) (by first | (simp; done) | (simp [bv_length, *]; done) | assumption))) ?_
        refine WR_val rfl (rn_move) ?_
        refine WR_sk rfl (sk_storeA 2 ([.int .u64 (hdC s), .int .u64 (hdS s)]) rfl rfl hr2 (by kernel_rfl) (by first | assumption | (simp; done) | (simp [bv_length, *]; done)) (by first | assumption | (simp; done) | (simp [bv_length, *]; done) | rfl) (by first | exact bv_one _ | assumption | (simp [Value.oneCell']; done)) (fun w908 hr2 ho908 => ?_))
        replace hr1 := hr1.only ho908 (Nat.ne_of_lt lt_g1_g2)
        replace hr4 := hr4.only ho908 (Nat.ne_of_gt lt_g2_g4)
        replace hB := ho908.below hB ge_hB_g2
        refine WR_val rfl (rn_assign) ?_
        refine WR_nil ?_
        refine thenN ?_
        refine W_ret ?_
        refine ret_ret [_, _] ⟨⟨_, rfl, Ld.rowA (k := 2) hr2 (by kernel_rfl) (by kernel_rfl) (by first | (simp; done) | (simp [bv_length, *]; done) | assumption)⟩, rfl, trivial⟩ ?_
        refine ⟨?_, hB⟩
        rw [hie]
        rw [decide_eq_true hq1, decide_eq_true (show 1 ≤ hdS s by omega), decide_eq_true (show hdS s ≤ hdC s by omega)]
        have e : decide ((hdC s : Int) ≤ 4611686018427387904) = decide (hdC s ≤ 4611686018427387904) := by
          by_cases hq4 : hdC s ≤ 4611686018427387904
          · rw [decide_eq_true hq4, decide_eq_true (by omega)]
          · rw [decide_eq_false hq4, decide_eq_false (by omega)]
        rw [← e]
        rfl
      ·
        have hz : hdIs s = false := by rw [hie, decide_eq_false (show ¬ hdS s ≤ hdC s by omega), Bool.and_false, Bool.false_and]
        refine WA_skip 19 (by kernel_rfl) rfl ?_
        refine WA_skip 20 (by kernel_rfl) rfl ?_
        refine WA_skip 21 (by kernel_rfl) rfl ?_
        refine WA_take 22 (by kernel_rfl) rfl (fun _ _ => rn_pick_f rfl) ?_
        refine WA_take 23 (by kernel_rfl) rfl (fun _ _ => rn_assign) ?_
        refine WA_done (by kernel_rfl) ?_
        refine thenN ?_
        refine W_seq ?_
        refine W_region ?_
        refine WR_val rfl (rn_load rfl (Ld.rowA (k := 2) hr4 (by kernel_rfl) (by kernel_rfl) (by first | (simp; done) | (simp [bv_length, *]; done) | assumption))) ?_
        refine WR_val rfl (rn_move) ?_
        refine WR_sk rfl (sk_storeA 2 ([.int .u64 (hdC s), .int .u64 (hdS s)]) rfl rfl hr2 (by kernel_rfl) (by first | assumption | (simp; done) | (simp [bv_length, *]; done)) (by first | assumption | (simp; done) | (simp [bv_length, *]; done) | rfl) (by first | exact bv_one _ | assumption | (simp [Value.oneCell']; done)) (fun w909 hr2 ho909 => ?_))
        replace hr1 := hr1.only ho909 (Nat.ne_of_lt lt_g1_g2)
        replace hr4 := hr4.only ho909 (Nat.ne_of_gt lt_g2_g4)
        replace hB := ho909.below hB ge_hB_g2
        refine WR_val rfl (rn_assign) ?_
        refine WR_nil ?_
        refine thenN ?_
        refine W_ret ?_
        refine ret_ret [_, _] ⟨⟨_, rfl, Ld.rowA (k := 2) hr2 (by kernel_rfl) (by kernel_rfl) (by first | (simp; done) | (simp [bv_length, *]; done) | assumption)⟩, rfl, trivial⟩ ?_
        refine ⟨?_, hB⟩
        rw [hz]
        rfl
    ·
      have hz : hdIs s = false := by rw [hie, decide_eq_false (show ¬ 1 ≤ hdS s by omega), Bool.and_false, Bool.false_and, Bool.false_and]
      refine WA_skip 12 (by kernel_rfl) rfl ?_
      refine WA_skip 13 (by kernel_rfl) rfl ?_
      refine WA_skip 14 (by kernel_rfl) rfl ?_
      refine WA_skip 15 (by kernel_rfl) rfl ?_
      refine WA_skip 16 (by kernel_rfl) rfl ?_
      refine WA_take 17 (by kernel_rfl) rfl (fun _ _ => rn_pick_f rfl) ?_
      refine WA_take 18 (by kernel_rfl) rfl (fun _ _ => rn_move) ?_
      refine WA_skip 19 (by kernel_rfl) rfl ?_
      refine WA_skip 20 (by kernel_rfl) rfl ?_
      refine WA_skip 21 (by kernel_rfl) rfl ?_
      refine WA_take 22 (by kernel_rfl) rfl (fun _ _ => rn_pick_f rfl) ?_
      refine WA_take 23 (by kernel_rfl) rfl (fun _ _ => rn_assign) ?_
      refine WA_done (by kernel_rfl) ?_
      refine thenN ?_
      refine W_seq ?_
      refine W_region ?_
      refine WR_val rfl (rn_load rfl (Ld.rowA (k := 2) hr4 (by kernel_rfl) (by kernel_rfl) (by first | (simp; done) | (simp [bv_length, *]; done) | assumption))) ?_
      refine WR_val rfl (rn_move) ?_
      refine WR_sk rfl (sk_storeA 2 ([.int .u64 (hdC s), .int .u64 (hdS s)]) rfl rfl hr2 (by kernel_rfl) (by first | assumption | (simp; done) | (simp [bv_length, *]; done)) (by first | assumption | (simp; done) | (simp [bv_length, *]; done) | rfl) (by first | exact bv_one _ | assumption | (simp [Value.oneCell']; done)) (fun w910 hr2 ho910 => ?_))
      replace hr1 := hr1.only ho910 (Nat.ne_of_lt lt_g1_g2)
      replace hr4 := hr4.only ho910 (Nat.ne_of_gt lt_g2_g4)
      replace hB := ho910.below hB ge_hB_g2
      refine WR_val rfl (rn_assign) ?_
      refine WR_nil ?_
      refine thenN ?_
      refine W_ret ?_
      refine ret_ret [_, _] ⟨⟨_, rfl, Ld.rowA (k := 2) hr2 (by kernel_rfl) (by kernel_rfl) (by first | (simp; done) | (simp [bv_length, *]; done) | assumption)⟩, rfl, trivial⟩ ?_
      refine ⟨?_, hB⟩
      rw [hz]
      rfl
  ·
    have hz : hdIs s = false := by rw [hie, decide_eq_false hq1, Bool.false_and, Bool.false_and, Bool.false_and]
    refine WA_skip 7 (by kernel_rfl) rfl ?_
    refine WA_skip 8 (by kernel_rfl) rfl ?_
    refine WA_skip 9 (by kernel_rfl) rfl ?_
    refine WA_take 10 (by kernel_rfl) rfl (fun _ _ => rn_pick_f rfl) ?_
    refine WA_take 11 (by kernel_rfl) rfl (fun _ _ => rn_move) ?_
    refine WA_skip 12 (by kernel_rfl) rfl ?_
    refine WA_skip 13 (by kernel_rfl) rfl ?_
    refine WA_skip 14 (by kernel_rfl) rfl ?_
    refine WA_skip 15 (by kernel_rfl) rfl ?_
    refine WA_skip 16 (by kernel_rfl) rfl ?_
    refine WA_take 17 (by kernel_rfl) rfl (fun _ _ => rn_pick_f rfl) ?_
    refine WA_take 18 (by kernel_rfl) rfl (fun _ _ => rn_move) ?_
    refine WA_skip 19 (by kernel_rfl) rfl ?_
    refine WA_skip 20 (by kernel_rfl) rfl ?_
    refine WA_skip 21 (by kernel_rfl) rfl ?_
    refine WA_take 22 (by kernel_rfl) rfl (fun _ _ => rn_pick_f rfl) ?_
    refine WA_take 23 (by kernel_rfl) rfl (fun _ _ => rn_assign) ?_
    refine WA_done (by kernel_rfl) ?_
    refine thenN ?_
    refine W_seq ?_
    refine W_region ?_
    refine WR_val rfl (rn_load rfl (Ld.rowA (k := 2) hr4 (by kernel_rfl) (by kernel_rfl) (by first | (simp; done) | (simp [bv_length, *]; done) | assumption))) ?_
    refine WR_val rfl (rn_move) ?_
    refine WR_sk rfl (sk_storeA 2 ([.int .u64 (hdC s), .int .u64 (hdS s)]) rfl rfl hr2 (by kernel_rfl) (by first | assumption | (simp; done) | (simp [bv_length, *]; done)) (by first | assumption | (simp; done) | (simp [bv_length, *]; done) | rfl) (by first | exact bv_one _ | assumption | (simp [Value.oneCell']; done)) (fun w911 hr2 ho911 => ?_))
    replace hr1 := hr1.only ho911 (Nat.ne_of_lt lt_g1_g2)
    replace hr4 := hr4.only ho911 (Nat.ne_of_gt lt_g2_g4)
    replace hB := ho911.below hB ge_hB_g2
    refine WR_val rfl (rn_assign) ?_
    refine WR_nil ?_
    refine thenN ?_
    refine W_ret ?_
    refine ret_ret [_, _] ⟨⟨_, rfl, Ld.rowA (k := 2) hr2 (by kernel_rfl) (by kernel_rfl) (by first | (simp; done) | (simp [bv_length, *]; done) | assumption)⟩, rfl, trivial⟩ ?_
    refine ⟨?_, hB⟩
    rw [hz]
    rfl
end Go.Proofs.Ytkkgahgpemepeaa

/- May a log lie on a disk; a head saved; a disk formatted. -/
namespace Go.Proofs.Ytkkgahgpemepeaa
open Go Go.RowKit Coup

def wf64 (i : Int) : Prop := -9223372036854775808 ≤ i ∧ i ≤ 9223372036854775807
def fitsN (all : Nat) (n : Int) : Bool := decide (4 ≤ n ∧ n ≤ 4000 ∧ 1 + n ≤ all)
set_option maxRecDepth 20000 in
theorem rfits29 (all n : Int) (w : World) (ha : 0 ≤ all) : Calls Try.prog 29 [.int .i64 all, .int .i64 n].toArray w (Ret fun v w' => v = .bool (fitsN all.toNat n) ∧ w = w') := by
  refine calls_W (fn := Try.f29) (rs := [.tmp 4]) (n := 16) Try.func29 rfl rfl Try.ntmps29 (by kernel_rfl) rfl ?_
  refine W_seq ?_
  refine W_region ?_
  refine WR_val rfl (rn_assign) ?_
  refine WR_nil ?_
  refine thenN ?_
  refine W_seq ?_
  refine W_region ?_
  refine WR_val rfl (rn_move) ?_
  refine WR_val rfl (rn_geq rfl rfl) ?_
  refine WR_val rfl (rn_move) ?_
  refine WR_part 7 rfl (fun h1 => ?_) (fun h1 => ?_)
  ·
    refine WR_yes rfl ?_
    refine WR_val rfl (rn_move) ?_
    refine WR_yes rfl ?_
    refine WR_val rfl (rn_leq rfl rfl) ?_
    refine WR_val rfl (rn_pick_t rfl) ?_
    refine WR_val rfl (rn_move) ?_
    refine WR_part 11 rfl (fun h2 => ?_) (fun h2 => ?_)
    ·
      refine WR_yes rfl ?_
      refine WR_val rfl (rn_move) ?_
      refine WR_yes rfl ?_
      refine WR_val rfl (rn_move) ?_
      refine WR_yes rfl ?_
      refine WR_val rfl (rn_gtr rfl rfl) ?_
      refine WR_val rfl (rn_pick_t rfl) ?_
      refine WR_val rfl (rn_assign) ?_
      refine WR_nil ?_
      refine thenN ?_
      refine W_ret ?_
      refine ret_ret [_] ⟨rfl, trivial⟩ ?_
      refine ⟨?_, rfl⟩
      show Value.bool (decide (n < all)) = _
      congr 1
      unfold fitsN
      by_cases h3 : n < all
      · rw [decide_eq_true h3, decide_eq_true (by omega)]
      · rw [decide_eq_false h3, decide_eq_false (by omega)]
    ·
      refine WR_no rfl rfl ?_
      refine WR_no rfl rfl ?_
      refine WR_no rfl rfl ?_
      refine WR_val rfl (rn_pick_f rfl) ?_
      refine WR_val rfl (rn_assign) ?_
      refine WR_nil ?_
      refine thenN ?_
      refine W_ret ?_
      refine ret_ret [_] ⟨rfl, trivial⟩ ?_
      have hz : fitsN all.toNat n = false := decide_eq_false (by omega)
      exact ⟨by rw [hz]; rfl, rfl⟩
  ·
    refine WR_no rfl rfl ?_
    refine WR_no rfl rfl ?_
    refine WR_val rfl (rn_pick_f rfl) ?_
    refine WR_val rfl (rn_move) ?_
    refine WR_no rfl rfl ?_
    refine WR_no rfl rfl ?_
    refine WR_no rfl rfl ?_
    refine WR_val rfl (rn_pick_f rfl) ?_
    refine WR_val rfl (rn_assign) ?_
    refine WR_nil ?_
    refine thenN ?_
    refine W_ret ?_
    refine ret_ret [_] ⟨rfl, trivial⟩ ?_
    have hz : fitsN all.toNat n = false := decide_eq_false (by omega)
    exact ⟨by rw [hz]; rfl, rfl⟩
section
variable {Y : World → List Nat → Prop} {g lo : Nat} {L : List Nat} {D : Dk} {w : World}
set_option maxRecDepth 20000 in
theorem may49 (h : Two (DZ g D) Y lo L w) (n : Int) (hn : wf64 n) : Calls Try.prog 49 [.pointer (some ⟨g, 0, none⟩), .int .i64 n].toArray w (Ret fun v w' => v = .int .i64 (if fitsN D.V.length n then 0 else 2) ∧ w = w') := by
  have hS := tSectors h
  have hp := (tOk h).2
  have hn8 := (tOk h).1.n
  have h1 := hn.1
  have h2 := hn.2
  refine calls_W (fn := Try.f49) (rs := [.tmp 4]) (n := 23) Try.func49 rfl rfl Try.ntmps49 (by kernel_rfl) rfl ?_
  refine W_seq ?_
  refine W_region ?_
  refine WR_val rfl (rn_assign) ?_
  refine WR_nil ?_
  refine thenN ?_
  refine W_seq ?_
  refine W_block ?_
  refine W_seq ?_
  refine W_region ?_
  refine WR_val rfl (rn_move) ?_
  refine WR_ent rfl (rn_call (by kernel_rfl) rfl) (hS) ?_
  rintro _ _ ⟨rfl, rfl⟩
  refine WR_val rfl (rn_eql rfl rfl) ?_
  refine WR_val rfl (rn_assign) ?_
  refine WR_nil ?_
  refine thenN ?_
  refine W_fp rfl ((by omega)) ?_
  refine W_seq ?_
  refine W_region ?_
  refine WR_val rfl (rn_move) ?_
  refine WR_val rfl (rn_lss rfl rfl) ?_
  refine WR_val rfl (rn_move) ?_
  refine WR_part 12 rfl (fun h3 => ?_) (fun h3 => ?_)
  ·
    refine WR_no rfl rfl ?_
    refine WR_no rfl rfl ?_
    refine WR_val rfl (rn_pick_t rfl) ?_
    refine WR_val rfl (rn_move) ?_
    refine WR_no rfl rfl ?_
    refine WR_no rfl rfl ?_
    refine WR_no rfl rfl ?_
    refine WR_no rfl rfl ?_
    refine WR_no rfl rfl ?_
    refine WR_val rfl (rn_pick_t rfl) ?_
    refine WR_val rfl (rn_assign) ?_
    refine WR_nil ?_
    refine thenN ?_
    refine W_tb rfl (rfl) ?_
    refine W_seq ?_
    refine W_region ?_
    refine WR_val rfl (rn_assign) ?_
    refine WR_nil ?_
    refine thenN ?_
    refine W_ret ?_
    refine blockR ?_
    refine thenR ?_
    refine ret_ret [_] ⟨rfl, trivial⟩ ?_
    have hz : fitsN D.V.length n = false := decide_eq_false (by omega)
    exact ⟨by rw [hz]; rfl, rfl⟩
  ·
    refine WR_yes rfl ?_
    refine WR_val rfl (rn_move) ?_
    refine WR_yes rfl ?_
    refine WR_val rfl (rn_gtr rfl rfl) ?_
    refine WR_val rfl (rn_pick_f rfl) ?_
    refine WR_val rfl (rn_move) ?_
    refine WR_part 16 rfl (fun h4 => ?_) (fun h4 => ?_)
    ·
      refine WR_no rfl rfl ?_
      refine WR_no rfl rfl ?_
      refine WR_no rfl rfl ?_
      refine WR_no rfl rfl ?_
      refine WR_no rfl rfl ?_
      refine WR_val rfl (rn_pick_t rfl) ?_
      refine WR_val rfl (rn_assign) ?_
      refine WR_nil ?_
      refine thenN ?_
      refine W_tb rfl (rfl) ?_
      refine W_seq ?_
      refine W_region ?_
      refine WR_val rfl (rn_assign) ?_
      refine WR_nil ?_
      refine thenN ?_
      refine W_ret ?_
      refine blockR ?_
      refine thenR ?_
      refine ret_ret [_] ⟨rfl, trivial⟩ ?_
      have hz : fitsN D.V.length n = false := decide_eq_false (by omega)
      exact ⟨by rw [hz]; rfl, rfl⟩
    ·
      refine WR_yes rfl ?_
      refine WR_val rfl (rn_move) ?_
      refine WR_yes rfl ?_
      refine WR_ent rfl (rn_call (by kernel_rfl) rfl) (hS) ?_
      rintro _ _ ⟨rfl, rfl⟩
      refine WR_yes rfl ?_
      refine WR_val rfl (rn_move) ?_
      refine WR_yes rfl ?_
      refine WR_val rfl (rn_add rfl rfl (Coup.w64 (by omega))) ?_
      refine WR_yes rfl ?_
      refine WR_val rfl (rn_lss rfl rfl) ?_
      refine WR_val rfl (rn_pick_f rfl) ?_
      refine WR_val rfl (rn_assign) ?_
      refine WR_nil ?_
      refine thenN ?_
      refine W_ifp rfl (fun h5 => ?_) (fun h5 => ?_)
      ·
        refine W_seq ?_
        refine W_region ?_
        refine WR_val rfl (rn_assign) ?_
        refine WR_nil ?_
        refine thenN ?_
        refine W_ret ?_
        refine blockR ?_
        refine thenR ?_
        refine ret_ret [_] ⟨rfl, trivial⟩ ?_
        have hz : fitsN D.V.length n = false := decide_eq_false (by omega)
        exact ⟨by rw [hz]; rfl, rfl⟩
      ·
        refine W_skip ?_
        refine blockN ?_
        refine thenN ?_
        refine W_seq ?_
        refine W_region ?_
        refine WR_val rfl (rn_assign) ?_
        refine WR_nil ?_
        refine thenN ?_
        refine W_ret ?_
        refine ret_ret [_] ⟨rfl, trivial⟩ ?_
        have hz : fitsN D.V.length n = true := decide_eq_true (by omega)
        exact ⟨by rw [hz]; rfl, rfl⟩
end
section
variable {Y : World → List Nat → Prop} [Thing Y] {g lo : Nat} {L : List Nat} {D : Dk} {w : World}
def saveD (D : Dk) (c s : Nat) : Dk := if stepOk D then flushD (writeA D 0 (headB c s)) else writeA D 0 (headB c s)
set_option maxRecDepth 20000 in
/-- A head saved: both the write and the flush are done, or the disk is dead. -/
theorem save54 (h : Two (DZ g D) Y lo L w) (c s : Nat) (hc : c < 18446744073709551616) (hs : s < 18446744073709551616) (hsh : shortD D 90000) :
    Calls Try.prog 54 [.pointer (some ⟨g, 0, none⟩), .agg #[.int .u64 c, .int .u64 s]].toArray w (Ret fun v w' => v = .int .i64 (if stepOk D && stepOk (writeA D 0 (headB c s)) then 0 else 10) ∧ Two (DZ g (saveD D c s)) Y lo L w' ∧ LoL lo L w w') := by
  have hD := h
  have hLL := LoL.refl lo L w
  have hin : inD D 0 = true := decide_eq_true ⟨by omega, by have := (tOk h).2; omega⟩
  have hS := fun w' => sector72 c s w' hc hs
  have hHl := headB_len c s
  have hob : ∃ H, headB c s = H := ⟨_, rfl⟩
  obtain ⟨H, hH⟩ := hob
  rw [saveD, hH]
  rw [hH] at hS hHl
  refine calls_W (fn := Try.f54) (rs := [.tmp 4]) (n := 15) Try.func54 rfl rfl Try.ntmps54 (by kernel_rfl) rfl ?_
  refine W_seq ?_
  refine W_region ?_
  refine WR_mk rfl (mk_box ([.int .u64 c, .int .u64 s]) rfl (fun g3 w3 hg3 hr3 hb3 => ?_))
  replace hD := hD.newc hb3 hg3 hr3.lt
  replace hLL := hLL.new hb3
  refine WR_val rfl (rn_assign) ?_
  refine WR_nil ?_
  refine thenN ?_
  refine W_seq ?_
  refine W_seq ?_
  refine W_region ?_
  refine WR_val rfl (rn_move) ?_
  refine WR_val rfl (rn_load rfl (Ld.rowA (k := 2) hr3 (by kernel_rfl) (by kernel_rfl) (by first | (simp; done) | (simp [bv_length, *]; done) | assumption))) ?_
  refine WR_ent rfl (rn_call (by kernel_rfl) rfl) (hS w3) ?_
  rintro _ w8 ⟨rfl, hb8⟩
  replace hD := hD.new hb8
  replace hLL := hLL.new hb8
  replace hr3 := hr3.new hb8
  have hw := tWrite hD 0 H hHl hsh
  rw [writeE, hin, if_pos rfl] at hw
  refine WR_ent rfl (rn_call (by kernel_rfl) rfl) (hw) ?_
  rintro _ w9 ⟨rfl, hD, hb9⟩
  replace hLL := hLL.ll hb9 (by first | (intro b hb; exact hb) | (intro b hb; simp [hb]; done) | simp)
  replace hr3 := hr3.kpd hb9.kp (by first | (refine notLL ?_; left; omega) | (refine notLL ?_; right; simp; done) | (intro b o e; cases e; first | (refine notLL ?_; left; omega) | (refine notLL ?_; right; simp; done) | (refine notLL ?_; right; simp [*]; done)) | (intro b hb; refine notLL ?_; left; omega) | (intro b hb e; cases e; exact notLL (by right; simp [*]) hb))
  refine WR_val rfl (rn_assign) ?_
  refine WR_nil ?_
  refine thenN ?_
  refine W_seq ?_
  refine W_region ?_
  refine WR_val rfl (rn_move) ?_
  refine WR_val rfl (rn_neq rfl rfl) ?_
  refine WR_nil ?_
  refine thenN ?_
  refine W_ifp rfl (fun hne => ?_) (fun hne => ?_)
  ·
    refine W_seq ?_
    refine W_region ?_
    refine WR_val rfl (rn_move) ?_
    refine WR_val rfl (rn_assign) ?_
    refine WR_nil ?_
    refine thenN ?_
    refine W_ret ?_
    refine thenR ?_
    refine ret_ret [_] ⟨rfl, trivial⟩ ?_
    have hf : stepOk D = false := by cases hx : stepOk D with | false => rfl | true => simp [hx] at hne
    refine ⟨by rw [hf]; rfl, ?_, hLL⟩
    rw [hf]
    exact hD.weak (fun b hb => List.mem_cons_of_mem _ hb)
  ·
    have hf : stepOk D = true := by cases hx : stepOk D with | true => rfl | false => simp [hx] at hne
    rw [hf, if_pos rfl, Bool.true_and]
    refine W_skip ?_
    refine thenN ?_
    refine W_seq ?_
    refine W_region ?_
    refine WR_val rfl (rn_move) ?_
    refine WR_ent rfl (rn_call (by kernel_rfl) rfl) (tFlush hD) ?_
    rintro _ w14 ⟨rfl, hD, hb14⟩
    replace hLL := hLL.ll hb14 (by first | (intro b hb; exact hb) | (intro b hb; simp [hb]; done) | simp)
    replace hr3 := hr3.kpd hb14.kp (by first | (refine notLL ?_; left; omega) | (refine notLL ?_; right; simp; done) | (intro b o e; cases e; first | (refine notLL ?_; left; omega) | (refine notLL ?_; right; simp; done) | (refine notLL ?_; right; simp [*]; done)) | (intro b hb; refine notLL ?_; left; omega) | (intro b hb e; cases e; exact notLL (by right; simp [*]) hb))
    refine WR_val rfl (rn_assign) ?_
    refine WR_nil ?_
    refine thenN ?_
    refine W_ret ?_
    refine ret_ret [_] ⟨rfl, trivial⟩ ?_
    exact ⟨rfl, hD.weak (fun b hb => List.mem_cons_of_mem _ hb), hLL⟩
def zerosD (D : Dk) (m : Nat) : Dk := (List.range m).foldl (fun (D : Dk) (i : Nat) => writeA D (i : Int) zeroS) D
theorem zerosD_succ (D : Dk) (m : Nat) : zerosD D (m + 1) = writeA (zerosD D m) (m : Int) zeroS := by simp [zerosD, List.range_succ]
theorem zeros_alive {D : Dk} {k : Nat} (h : Alive D k) : ∀ m, Alive (zerosD D m) (m + k) ∧ (zerosD D m).V.length = D.V.length
  | 0 => ⟨by rw [Nat.zero_add]; exact h, rfl⟩
  | m + 1 => by
    obtain ⟨h1, h2⟩ := zeros_alive h m
    rw [zerosD_succ]
    obtain ⟨e1, e2, _⟩ := h1.writeA (m : Int) zeroS
    exact ⟨e1.weak (by omega), e2.trans h2⟩
def fmtD (D : Dk) (n : Nat) : Dk := flushD (writeA (flushD (zerosD D (1 + n))) 0 (headB 1 1))
set_option maxRecDepth 20000 in
set_option maxHeartbeats 1000000 in
theorem format26 (h : Two (DZ g D) Y lo L w) (n : Int) (hn : wf64 n) (ha : Alive D 80000) :
    Calls Try.prog 26 [.pointer (some ⟨g, 0, none⟩), .int .i64 n].toArray w (Ret fun v w' => v = .int .i64 (if fitsN D.V.length n then 0 else 2) ∧ Two (DZ g (if fitsN D.V.length n then fmtD D n.toNat else D)) Y lo L w' ∧ LoL lo L w w') := by
  have hD := h
  have hLL := LoL.refl lo L w
  have hM := may49 h n hn
  obtain ⟨Z, hzz, hzb, hzl⟩ := zeroSQ
  have hZl : Z.length = 128 := by rw [← bv_length]; exact hzl
  have hzs := fun m => zerosD_succ D m
  simp only [hzz] at hzs
  obtain ⟨ft, hft⟩ : ∃ ft, fitsN D.V.length n = ft := ⟨_, rfl⟩
  rw [hft] at hM ⊢
  refine calls_W (fn := Try.f26) (rs := [.tmp 4]) (n := 36) Try.func26 rfl rfl Try.ntmps26 (by kernel_rfl) rfl ?_
  refine W_seq ?_
  refine W_region ?_
  refine WR_val rfl (rn_assign) ?_
  refine WR_nil ?_
  refine thenN ?_
  refine W_seq ?_
  refine W_seq ?_
  refine W_region ?_
  refine WR_val rfl (rn_move) ?_
  refine WR_val rfl (rn_move) ?_
  refine WR_ent rfl (rn_call (by kernel_rfl) rfl) (hM) ?_
  rintro _ _ ⟨rfl, rfl⟩
  refine WR_val rfl (rn_assign) ?_
  refine WR_nil ?_
  refine thenN ?_
  refine W_seq ?_
  refine W_region ?_
  refine WR_val rfl (rn_move) ?_
  refine WR_val rfl (rn_neq rfl rfl) ?_
  refine WR_nil ?_
  refine thenN ?_
  refine W_ifp rfl (fun hne => ?_) (fun hne => ?_)
  ·
    refine W_seq ?_
    refine W_region ?_
    refine WR_val rfl (rn_move) ?_
    refine WR_val rfl (rn_assign) ?_
    refine WR_nil ?_
    refine thenN ?_
    refine W_ret ?_
    refine thenR ?_
    refine ret_ret [_] ⟨rfl, trivial⟩ ?_
    have hf : ft = false := by cases ft with | false => rfl | true => simp at hne
    subst hf
    exact ⟨rfl, hD, hLL⟩
  ·
    have hf : ft = true := by cases ft with | true => rfl | false => simp at hne
    subst hf
    have hfit := of_decide_eq_true hft
    have hobt : ∃ m : Nat, n = m := ⟨n.toNat, by omega⟩
    obtain ⟨m, rfl⟩ := hobt
    rw [if_pos rfl, if_pos rfl, Int.toNat_natCast]
    refine W_skip ?_
    refine thenN ?_
    refine W_seq ?_
    refine W_seq ?_
    refine W_region ?_
    refine WR_val rfl (rn_move) ?_
    refine WR_val rfl (rn_add rfl rfl (Coup.w64 (by omega))) ?_
    refine WR_val rfl (rn_move) ?_
    refine WR_nil ?_
    refine thenN ?_
    refine W_block ?_
    refine W_loop (α := Nat) 0 (fun i => [(17, .int .i64 (i : Nat)), (16, .int .i64 (1 + (m : Int))), (0, .pointer (some ⟨g, 0, none⟩))])
      (fun i w' => i ≤ 1 + m ∧ Two (DZ g (zerosD D i)) Y lo L w' ∧ LoL lo L w w') (fun i => 1 + m - i)
      ⟨rfl, rfl, rfl, rfl⟩ ⟨Nat.zero_le _, hD, hLL⟩ ?_
    clear hD hLL
    rintro i f wr ⟨hi, hD, hLL⟩
    have hal := zeros_alive ha i
    have hst := step_alive hal.1.left hal.1.dead
    refine W_seq ?_
    refine W_region ?_
    refine WR_val rfl (rn_lss rfl rfl) ?_
    refine WR_nil ?_
    refine thenN ?_
    refine W_seq ?_
    refine W_ifp rfl (fun hlt => ?_) (fun hlt => ?_)
    ·
      refine W_skip ?_
      refine thenN ?_
      refine W_seq ?_
      refine W_block ?_
      refine W_seq ?_
      refine W_region ?_
      refine WR_val rfl (rn_move) ?_
      refine WR_val rfl (rn_assign) ?_
      refine WR_nil ?_
      refine thenN ?_
      refine W_seq ?_
      refine W_region ?_
      refine WR_val rfl (rn_move) ?_
      refine WR_val rfl (rn_move) ?_
      refine WR_val rfl (rn_zeroed (bv Z) (by rw [← hzb]; kernel_rfl)) ?_
      have hw := tWrite hD (i : Int) Z hZl (short_of hal.1.short (by omega))
      have hin : inD (zerosD D i) (i : Int) = true := decide_eq_true (by omega)
      rw [writeE, hin, hst.1, if_pos rfl, if_pos rfl, ← hzs] at hw
      refine WR_ent rfl (rn_call (by kernel_rfl) rfl) (hw) ?_
      rintro _ w23 ⟨rfl, hD, hb23⟩
      replace hLL := hLL.ll hb23 (by first | (intro b hb; exact hb) | (intro b hb; simp [hb]; done) | simp)
      refine WR_val rfl (rn_assign) ?_
      refine WR_nil ?_
      refine thenN ?_
      refine W_seq ?_
      refine W_region ?_
      refine WR_val rfl (rn_move) ?_
      refine WR_val rfl (rn_neq rfl rfl) ?_
      refine WR_nil ?_
      refine thenN ?_
      refine W_fp rfl ((by omega)) ?_
      refine W_skip ?_
      refine blockN ?_
      refine thenN ?_
      refine W_region ?_
      refine WR_val rfl (rn_add rfl rfl (Coup.w64 (by omega))) ?_
      refine WR_val rfl (rn_move) ?_
      refine WR_nil ?_
      refine loopN ⟨i + 1, by omega, ⟨by go_num, rfl, rfl, rfl⟩, by omega, hD, hLL⟩
    ·
      have him : i = 1 + m := by omega
      subst him
      have hfa := flush_alive hal.1
      have hfl := flush_len (D := zerosD D (1 + m))
      have hw1 := hfa.2.writeA 0 (headB 1 1)
      have hst2 := step_alive hfa.2.left hfa.2.dead
      have hst3 := step_alive hw1.1.left hw1.1.dead
      refine W_exit ?_
      refine thenX ?_
      refine loopX ?_
      refine blockX ?_
      refine thenN ?_
      refine W_seq ?_
      refine W_seq ?_
      refine W_region ?_
      refine WR_val rfl (rn_move) ?_
      have hf := tFlush hD
      rw [hst.1, if_pos rfl] at hf
      refine WR_ent rfl (rn_call (by kernel_rfl) rfl) (hf) ?_
      rintro _ w29 ⟨rfl, hD, hb29⟩
      replace hLL := hLL.ll hb29 (by first | (intro b hb; exact hb) | (intro b hb; simp [hb]; done) | simp)
      refine WR_val rfl (rn_assign) ?_
      refine WR_nil ?_
      refine thenN ?_
      refine W_seq ?_
      refine W_region ?_
      refine WR_val rfl (rn_move) ?_
      refine WR_val rfl (rn_neq rfl rfl) ?_
      refine WR_nil ?_
      refine thenN ?_
      refine W_fp rfl ((by omega)) ?_
      refine W_skip ?_
      refine thenN ?_
      refine W_seq ?_
      refine W_region ?_
      refine WR_val rfl (rn_move) ?_
      refine WR_val rfl (rn_pair (k0 := .u64) (k1 := .u64) (by kernel_rfl) (by kernel_rfl) rfl rfl) ?_
      have hsv := save54 hD 1 1 (by omega) (by omega) (short_of hfa.2.short (by omega))
      rw [saveD, hst2.1, if_pos rfl, hst3.1] at hsv
      refine WR_ent rfl (rn_call (by kernel_rfl) rfl) (hsv) ?_
      rintro _ w35 ⟨rfl, hD, hb35⟩
      replace hLL := hLL.ll hb35 (by first | (intro b hb; exact hb) | (intro b hb; simp [hb]; done) | simp)
      refine WR_val rfl (rn_assign) ?_
      refine WR_nil ?_
      refine thenN ?_
      refine W_ret ?_
      refine ret_ret [_] ⟨rfl, trivial⟩ ?_
      exact ⟨rfl, hD, hLL⟩
end
end Go.Proofs.Ytkkgahgpemepeaa

/- The log in memory; a head saved; the next count. -/
namespace Go.Proofs.Ytkkgahgpemepeaa
open Go Go.RowKit Coup

structure Lg where
  count : Nat
  since : Nat
  size : Nat
  num : Nat
  at_ : Nat
  dead : Bool
def lgV (g : Nat) (G : Lg) : List Value := [.int .u64 (G.count : Int), .int .u64 (G.since : Int), .pointer (some ⟨g, 0, none⟩), .int .i64 (G.size : Int), .int .i64 (G.num : Int), .int .i64 (G.at_ : Int), .bool G.dead]
/-- A log at x, its disk at g, something else beside them. -/
structure LgAt (g x : Nat) (Y : World → List Nat → Prop) (lo : Nat) (L : List Nat) (D : Dk) (G : Lg) (w : World) : Prop where
  two : Two (DZ g D) Y lo (x :: L) w
  rowx : row w x (lgV g G) 44
  ge : lo ≤ x
  ni : x ∉ L
namespace LgAt
variable {Y : World → List Nat → Prop} {g x lo gc : Nat} {L L2 M : List Nat} {D : Dk} {G : Lg} {w w' : World}
theorem lt (h : LgAt g x Y lo L D G w) : x < w.heap.size := h.rowx.lt
theorem kpd [hY : Thing Y] (h : LgAt g x Y lo L D G w) (k : Kp M w w') (hM : ∀ b ∈ M, b < lo ∨ b ∈ L) : LgAt g x Y lo L D G w' :=
  ⟨h.two.kpd k fun b hb => (hM b hb).imp id (List.mem_cons_of_mem _), h.rowx.kpd k fun hm => (hM _ hm).elim (fun hl => absurd h.ge (Nat.not_le.2 hl)) h.ni, h.ge, h.ni⟩
theorem new [hY : Thing Y] (h : LgAt g x Y lo L D G w) (hb : Below w.heap.size w w') : LgAt g x Y lo L D G w' := h.kpd (M := []) (Kp.of_below hb) (by simp)
theorem only [hY : Thing Y] (h : LgAt g x Y lo L D G w) (ho : Only gc w w') (hg : gc < lo ∨ gc ∈ L) : LgAt g x Y lo L D G w' := h.kpd (Kp.of_only ho) fun b hb => by rw [List.mem_singleton.1 hb]; exact hg
theorem weak (h : LgAt g x Y lo L D G w) (h2 : ∀ b ∈ L2, b ∈ L) : LgAt g x Y lo L2 D G w := ⟨h.two.weak fun b hb => (List.mem_cons.1 hb).elim (fun e => e ▸ List.mem_cons_self ..) fun hm => List.mem_cons_of_mem _ (h2 b hm), h.rowx, h.ge, fun hm => h.ni (h2 _ hm)⟩
theorem newc [hY : Thing Y] (h : LgAt g x Y lo L D G w) (hb : Below w.heap.size w w') (hg : w.heap.size ≤ gc) (hg' : gc < w'.heap.size) : LgAt g x Y lo (gc :: L) D G w' :=
  ⟨(h.two.newc hb hg hg').weak (L2 := x :: gc :: L) fun b hm => by
    rcases List.mem_cons.1 hm with rfl | hm
    · exact List.mem_cons_of_mem _ (List.mem_cons_self ..)
    · rcases List.mem_cons.1 hm with rfl | hm
      · exact List.mem_cons_self ..
      · exact List.mem_cons_of_mem _ (List.mem_cons_of_mem _ hm), h.rowx.new hb, h.ge, fun hm => by
    rcases List.mem_cons.1 hm with e | hm
    · have := h.lt; omega
    · exact h.ni hm⟩
theorem fst (h : LgAt g x Y lo L D G w) : Two (DZ g D) Y lo L w := h.two.weak fun _ hb => List.mem_cons_of_mem _ hb
end LgAt
section
variable {Y : World → List Nat → Prop} [Thing Y] {g x lo : Nat} {L : List Nat} {D : Dk} {G : Lg} {w : World}
def nextG (G : Lg) (s : Nat) (ok : Bool) : Lg := if ok then { G with count := G.count + 1, since := s } else { G with dead := true }
def saveE (D : Dk) (c s : Nat) : Bool := stepOk D && stepOk (writeA D 0 (headB c s))
set_option maxRecDepth 20000 in
theorem next48 (h : LgAt g x Y lo L D G w) (s : Nat) (hc : G.count + 1 < 18446744073709551616) (hs : s < 18446744073709551616) (hsh : shortD D 90000) :
    Calls Try.prog 48 [.pointer (some ⟨x, 0, none⟩), .int .u64 (s : Int)].toArray w (Ret fun v w' => v = .int .i64 (if saveE D (G.count + 1) s then 0 else 10) ∧ LgAt g x Y lo L (saveD D (G.count + 1) s) (nextG G s (saveE D (G.count + 1) s)) w' ∧ LoL lo L w w') := by
  obtain ⟨hD, hx, hge, hni⟩ := h
  have hLL := LoL.refl lo L w
  have hxl := hx.lt
  have hsv0 := fun (L : List Nat) (w' : World) (h : Two (DZ g D) Y lo L w') => save54 h (G.count + 1) s hc hs hsh
  obtain ⟨ok, hok⟩ : ∃ ok, saveE D (G.count + 1) s = ok := ⟨_, rfl⟩
  obtain ⟨D2, hD2⟩ : ∃ D2, saveD D (G.count + 1) s = D2 := ⟨_, rfl⟩
  rw [hok, hD2]
  unfold saveE at hok
  rw [hok, hD2] at hsv0
  obtain ⟨c, si, sz, nu, at_, de⟩ := G
  dsimp only [lgV, nextG] at *
  refine calls_W (fn := Try.f48) (rs := [.tmp 4]) (n := 31) Try.func48 rfl rfl Try.ntmps48 (by kernel_rfl) rfl ?_
  refine W_seq ?_
  refine W_region ?_
  refine WR_val rfl (rn_assign) ?_
  refine WR_nil ?_
  refine thenN ?_
  refine W_seq ?_
  refine W_region ?_
  refine WR_val rfl (rn_move) ?_
  refine WR_val rfl (rn_nilCheckP rfl) ?_
  refine WR_val rfl (rn_fieldAddr (off := 0) (by kernel_rfl) rfl) ?_
  refine WR_val rfl (rn_fieldAddr (off := 0) (by kernel_rfl) rfl) ?_
  refine WR_val rfl (rn_load rfl (Ld.row1 hx (by kernel_rfl) rfl)) ?_
  refine WR_val rfl (rn_add rfl rfl (wu64 (by omega))) ?_
  refine WR_val rfl (rn_move) ?_
  refine WR_val rfl (rn_pair (k0 := .u64) (k1 := .u64) (by kernel_rfl) (by kernel_rfl) rfl rfl) ?_
  refine WR_mk rfl (mk_alloc ([Value.int .u64 0, Value.int .u64 0]) (by kernel_rfl) (fun g5 w5 hg5 hr5 hb5 => ?_))
  have lt_x_g5 : x < g5 := Nat.lt_of_lt_of_le hx.lt hg5
  replace hD := hD.newc hb5 hg5 hr5.lt
  replace hx := hx.new hb5
  replace hLL := hLL.new hb5
  refine WR_sk rfl (sk_storeA 2 (_) rfl rfl hr5 (by kernel_rfl) (by first | assumption | (simp; done) | (simp [bv_length, *]; done)) (by first | assumption | (simp; done) | (simp [bv_length, *]; done) | rfl) (by first | exact bv_one _ | assumption | (simp [Value.oneCell']; done)) (fun w901 hr5 ho901 => ?_))
  replace hD := hD.only ho901 (by first | (right; simp; done) | (left; omega))
  replace hx := hx.only ho901 (Nat.ne_of_lt lt_x_g5)
  replace hLL := hLL.only ho901 (by first | omega | (right; exact ⟨by omega, by assumption⟩))
  refine WR_nil ?_
  refine thenN ?_
  refine W_seq ?_
  refine W_seq ?_
  refine W_drawL (lo) ((g5 :: x :: L)) (by kernel_rfl) ?_
  intro w902 hb902 hn902 hS902
  replace hD := hD.new hb902
  replace hx := hx.new hb902
  replace hLL := hLL.new hb902
  replace hr5 := hr5.new hb902
  have hD_d902 := hD
  have hx_d902 := hx
  have hLL_d902 := hLL
  have hr5_d902 := hr5
  refine WA_take 0 (by kernel_rfl) rfl (fun _ _ => rn_move) ?_
  refine WA_take 1 (by kernel_rfl) rfl (fun _ _ => rn_nilCheckP rfl) ?_
  refine WA_take 2 (by kernel_rfl) rfl (fun _ _ => rn_fieldAddr (off := 2) (by kernel_rfl) rfl) ?_
  refine WA_take 3 (by kernel_rfl) rfl (fun w' hS' => rn_load rfl (Ld.row1 (hx_d902.kpd hS' (by first | (simp; done) | (simp; omega) | (simp [*]; done) | exact notLL (Or.inl (by omega)) | exact notLL (Or.inr (by simp)) | exact fun g hm => Nat.le_trans (by omega) (inLL hm).1 | (intro b o e; cases e; exact notLL (Or.inl (by omega))) | (intro b hm; have := (hu.lt b (Option.mem_toList.1 hm)).1; omega) | (intro b o e; cases e; intro hm; have := (hu.lt _ (Option.mem_toList.1 hm)).1; omega))) (by kernel_rfl) rfl)) ?_
  refine WA_take 4 (by kernel_rfl) rfl (fun w' hS' => rn_load rfl (Ld.rowA (k := 2) (hr5_d902.kpd hS' (by first | (simp; done) | (simp; omega) | (simp [*]; done) | exact notLL (Or.inl (by omega)) | exact notLL (Or.inr (by simp)) | exact fun g hm => Nat.le_trans (by omega) (inLL hm).1 | (intro b o e; cases e; exact notLL (Or.inl (by omega))) | (intro b hm; have := (hu.lt b (Option.mem_toList.1 hm)).1; omega) | (intro b o e; cases e; intro hm; have := (hu.lt _ (Option.mem_toList.1 hm)).1; omega))) (by kernel_rfl) (by kernel_rfl) (by first | (simp; done) | (simp [bv_length, *]; done) | assumption))) ?_
  refine WA_one 5 (by kernel_rfl) ?_
  refine WO_ent rfl rfl (rn_call (by kernel_rfl) rfl) (hsv0 _ w902 hD) ?_
  rintro _ w20 ⟨rfl, hD, hb20⟩
  have hS903 := hS902.addLL hn902 hb20
  refine ⟨hS903, ?_⟩
  replace hx := hx.kpd hb20.kp (by first | (refine notLL ?_; left; omega) | (refine notLL ?_; right; simp; done) | (intro b o e; cases e; first | (refine notLL ?_; left; omega) | (refine notLL ?_; right; simp; done) | (refine notLL ?_; right; simp [*]; done)) | (intro b hb; refine notLL ?_; left; omega) | (intro b hb e; cases e; exact notLL (by right; simp [*]) hb))
  replace hLL := hLL.ll hb20 (by first | (intro b hb; exact hb) | (intro b hb; simp [hb]; done) | simp)
  replace hr5 := hr5.kpd hb20.kp (by first | (refine notLL ?_; left; omega) | (refine notLL ?_; right; simp; done) | (intro b o e; cases e; first | (refine notLL ?_; left; omega) | (refine notLL ?_; right; simp; done) | (refine notLL ?_; right; simp [*]; done)) | (intro b hb; refine notLL ?_; left; omega) | (intro b hb e; cases e; exact notLL (by right; simp [*]) hb))
  refine WA_take 6 (by kernel_rfl) rfl (fun _ _ => rn_assign) ?_
  refine WA_done (by kernel_rfl) ?_
  refine thenN ?_
  refine W_seq ?_
  refine W_region ?_
  refine WR_val rfl (rn_move) ?_
  refine WR_val rfl (rn_neq rfl rfl) ?_
  refine WR_nil ?_
  refine thenN ?_
  refine W_ifp rfl (fun hne => ?_) (fun hne => ?_)
  ·
    refine W_seq ?_
    refine W_region ?_
    refine WR_val rfl (rn_move) ?_
    refine WR_val rfl (rn_nilCheckP rfl) ?_
    refine WR_val rfl (rn_fieldAddr (off := 6) (by kernel_rfl) rfl) ?_
    refine WR_sk rfl (sk_store1 rfl rfl rfl rfl hx (by kernel_rfl) (by first | (simp only [List.length_replicate]; omega) | (simp only [iv_length]; omega) | (simp only [bv_length, List.length_set]; omega) | simp) (fun w904 hx ho904 => ?_))
    replace hD := hD.only ho904 (by first | (right; simp; done) | (left; omega))
    replace hLL := hLL.only ho904 (by first | omega | (right; exact ⟨by omega, by assumption⟩))
    replace hr5 := hr5.only ho904 (Nat.ne_of_gt lt_x_g5)
    refine WR_nil ?_
    refine thenN ?_
    refine W_seq ?_
    refine W_region ?_
    refine WR_val rfl (rn_move) ?_
    refine WR_val rfl (rn_assign) ?_
    refine WR_nil ?_
    refine thenN ?_
    refine W_ret ?_
    refine thenR ?_
    refine ret_ret [_] ⟨rfl, trivial⟩ ?_
    have hf : ok = false := by cases ok with | false => rfl | true => simp at hne
    subst hf
    exact ⟨rfl, ⟨hD.weak (fun b hb => List.mem_cons_of_mem _ hb), hx, hge, hni⟩, hLL⟩
  ·
    have hf : ok = true := by cases ok with | true => rfl | false => simp at hne
    subst hf
    refine W_skip ?_
    refine thenN ?_
    refine W_seq ?_
    refine W_region ?_
    refine WR_val rfl (rn_move) ?_
    refine WR_val rfl (rn_load rfl (Ld.rowA (k := 2) hr5 (by kernel_rfl) (by kernel_rfl) (by first | (simp; done) | (simp [bv_length, *]; done) | assumption))) ?_
    refine WR_val rfl (rn_nilCheckP rfl) ?_
    refine WR_val rfl (rn_fieldAddr (off := 0) (by kernel_rfl) rfl) ?_
    refine WR_sk rfl (sk_store [.int .u64 ((c : Int) + 1), .int .u64 (s : Int)] rfl rfl hx (by kernel_rfl) (by simp) (by simp [Value.oneCell']) (fun w905 hx ho905 => ?_))
    replace hD := hD.only ho905 (by first | (right; simp; done) | (left; omega))
    replace hLL := hLL.only ho905 (by first | omega | (right; exact ⟨by omega, by assumption⟩))
    replace hr5 := hr5.only ho905 (Nat.ne_of_gt lt_x_g5)
    refine WR_nil ?_
    refine thenN ?_
    refine W_seq ?_
    refine W_region ?_
    refine WR_val rfl (rn_assign) ?_
    refine WR_nil ?_
    refine thenN ?_
    refine W_ret ?_
    refine ret_ret [_] ⟨rfl, trivial⟩ ?_
    exact ⟨rfl, ⟨hD.weak (fun b hb => List.mem_cons_of_mem _ hb), hx, hge, hni⟩, hLL⟩
omit [Thing Y]
set_option maxRecDepth 20000 in
theorem ready45 (h : LgAt g x Y lo L D G w) : Calls Try.prog 45 [.pointer (some ⟨x, 0, none⟩)].toArray w (Ret fun v w' => v = .int .i64 (if G.dead then 10 else 0) ∧ w = w') := by
  obtain ⟨hD, hx, hge, hni⟩ := h
  obtain ⟨c, si, sz, nu, at_, de⟩ := G
  dsimp only [lgV] at *
  refine calls_W (fn := Try.f45) (rs := [.tmp 2]) (n := 18) Try.func45 rfl rfl Try.ntmps45 (by kernel_rfl) rfl ?_
  refine W_seq ?_
  refine W_region ?_
  refine WR_val rfl (rn_assign) ?_
  refine WR_nil ?_
  refine thenN ?_
  refine W_seq ?_
  refine W_block ?_
  refine W_seq ?_
  refine W_region ?_
  refine WR_val rfl (rn_move) ?_
  refine WR_val rfl (rn_eqlP1 (by kernel_rfl) rfl rfl) ?_
  refine WR_val rfl (rn_move) ?_
  refine WR_fb 6 rfl (rfl) ?_
  refine WR_yes rfl ?_
  refine WR_val rfl (rn_move) ?_
  refine WR_yes rfl ?_
  refine WR_val rfl (rn_nilCheckP rfl) ?_
  refine WR_yes rfl ?_
  refine WR_val rfl (rn_fieldAddr (off := 2) (by kernel_rfl) rfl) ?_
  refine WR_yes rfl ?_
  refine WR_val rfl (rn_load rfl (Ld.row1 hx (by kernel_rfl) rfl)) ?_
  refine WR_yes rfl ?_
  refine WR_val rfl (rn_eqlP1 (by kernel_rfl) rfl rfl) ?_
  refine WR_val rfl (rn_pick_f rfl) ?_
  refine WR_val rfl (rn_assign) ?_
  refine WR_nil ?_
  refine thenN ?_
  refine W_fb rfl (rfl) ?_
  refine W_seq ?_
  refine W_region ?_
  refine WR_val rfl (rn_move) ?_
  refine WR_val rfl (rn_nilCheckP rfl) ?_
  refine WR_val rfl (rn_fieldAddr (off := 6) (by kernel_rfl) rfl) ?_
  refine WR_val rfl (rn_load rfl (Ld.row1 hx (by kernel_rfl) rfl)) ?_
  refine WR_val rfl (rn_assign) ?_
  refine WR_nil ?_
  refine thenN ?_
  refine W_if rfl (fun hde => ?_) (fun hde => ?_)
  ·
    refine W_seq ?_
    refine W_region ?_
    refine WR_val rfl (rn_assign) ?_
    refine WR_nil ?_
    refine thenN ?_
    refine W_ret ?_
    refine blockR ?_
    refine thenR ?_
    refine ret_ret [_] ⟨rfl, trivial⟩ ?_
    subst hde
    exact ⟨rfl, rfl⟩
  ·
    refine W_skip ?_
    refine blockN ?_
    refine thenN ?_
    refine W_seq ?_
    refine W_region ?_
    refine WR_val rfl (rn_assign) ?_
    refine WR_nil ?_
    refine thenN ?_
    refine W_ret ?_
    refine ret_ret [_] ⟨rfl, trivial⟩ ?_
    have hf : de = false := by cases de with | false => rfl | true => cases hde
    subst hf
    exact ⟨rfl, rfl⟩
set_option maxRecDepth 20000 in
theorem room19 (h : LgAt g x Y lo L D G w) (hle : G.at_ ≤ G.size) (hsz : G.size ≤ 4000) : Calls Try.prog 19 [.pointer (some ⟨x, 0, none⟩)].toArray w (Ret fun v w' => v = .int .i64 ((G.size - G.at_ : Nat) : Int) ∧ Below w.heap.size w w') := by
  obtain ⟨hD, hx, hge, hni⟩ := h
  obtain ⟨c, si, sz, nu, at_, de⟩ := G
  dsimp only [lgV] at *
  have hB := Below.refl w.heap.size w
  refine calls_W (fn := Try.f19) (rs := [.tmp 2]) (n := 14) Try.func19 rfl rfl Try.ntmps19 (by kernel_rfl) rfl ?_
  refine W_seq ?_
  refine W_region ?_
  refine WR_val rfl (rn_assign) ?_
  refine WR_nil ?_
  refine thenN ?_
  refine W_seq ?_
  refine W_seq ?_
  refine W_region ?_
  refine WR_val rfl (rn_move) ?_
  refine WR_val rfl (rn_eqlP1 (by kernel_rfl) rfl rfl) ?_
  refine WR_nil ?_
  refine thenN ?_
  refine W_fb rfl (rfl) ?_
  refine W_skip ?_
  refine thenN ?_
  refine W_seq ?_
  refine W_draw' [] (by kernel_rfl) ?_
  intro w901 hb901 hS901
  replace hx := hx.new hb901
  replace hB := hB.acc hb901
  have hx_d901 := hx
  have hB_d901 := hB
  refine WA_take 0 (by kernel_rfl) rfl (fun _ _ => rn_move) ?_
  refine WA_take 1 (by kernel_rfl) rfl (fun _ _ => rn_nilCheckP rfl) ?_
  refine WA_take 2 (by kernel_rfl) rfl (fun _ _ => rn_fieldAddr (off := 3) (by kernel_rfl) rfl) ?_
  refine WA_take 3 (by kernel_rfl) rfl (fun w' hS' => rn_load rfl (Ld.row1 (hx_d901.kpd hS' (by first | (simp; done) | (simp; omega) | (simp [*]; done) | exact notLL (Or.inl (by omega)) | exact notLL (Or.inr (by simp)) | exact fun g hm => Nat.le_trans (by omega) (inLL hm).1 | (intro b o e; cases e; exact notLL (Or.inl (by omega))) | (intro b hm; have := (hu.lt b (Option.mem_toList.1 hm)).1; omega) | (intro b o e; cases e; intro hm; have := (hu.lt _ (Option.mem_toList.1 hm)).1; omega))) (by kernel_rfl) rfl)) ?_
  refine WA_take 4 (by kernel_rfl) rfl (fun _ _ => rn_move) ?_
  refine WA_take 5 (by kernel_rfl) rfl (fun _ _ => rn_nilCheckP rfl) ?_
  refine WA_take 6 (by kernel_rfl) rfl (fun _ _ => rn_fieldAddr (off := 5) (by kernel_rfl) rfl) ?_
  refine WA_take 7 (by kernel_rfl) rfl (fun w' hS' => rn_load rfl (Ld.row1 (hx_d901.kpd hS' (by first | (simp; done) | (simp; omega) | (simp [*]; done) | exact notLL (Or.inl (by omega)) | exact notLL (Or.inr (by simp)) | exact fun g hm => Nat.le_trans (by omega) (inLL hm).1 | (intro b o e; cases e; exact notLL (Or.inl (by omega))) | (intro b hm; have := (hu.lt b (Option.mem_toList.1 hm)).1; omega) | (intro b o e; cases e; intro hm; have := (hu.lt _ (Option.mem_toList.1 hm)).1; omega))) (by kernel_rfl) rfl)) ?_
  refine WA_take 8 (by kernel_rfl) rfl (fun _ _ => rn_sub rfl rfl (Coup.w64 (by omega))) ?_
  refine WA_take 9 (by kernel_rfl) rfl (fun _ _ => rn_assign) ?_
  refine WA_done (by kernel_rfl) ?_
  refine thenN ?_
  refine W_ret ?_
  refine ret_ret [_] ⟨rfl, trivial⟩ ?_
  have he : (sz : Int) - at_ = ((sz - at_ : Nat) : Int) := by omega
  exact ⟨by show Value.int .i64 ((sz : Int) - at_) = _; rw [he], hB⟩
set_option maxRecDepth 20000 in
theorem count20 (h : LgAt g x Y lo L D G w) : Calls Try.prog 20 [.pointer (some ⟨x, 0, none⟩)].toArray w (Ret fun v w' => v = .int .u64 (G.count : Int) ∧ w = w') := by
  obtain ⟨hD, hx, hge, hni⟩ := h
  obtain ⟨c, si, sz, nu, at_, de⟩ := G
  dsimp only [lgV] at *
  refine calls_W (fn := Try.f20) (rs := [.tmp 2]) (n := 10) Try.func20 rfl rfl Try.ntmps20 (by kernel_rfl) rfl ?_
  refine W_seq ?_
  refine W_region ?_
  refine WR_val rfl (rn_assign) ?_
  refine WR_nil ?_
  refine thenN ?_
  refine W_seq ?_
  refine W_seq ?_
  refine W_region ?_
  refine WR_val rfl (rn_move) ?_
  refine WR_val rfl (rn_eqlP1 (by kernel_rfl) rfl rfl) ?_
  refine WR_nil ?_
  refine thenN ?_
  refine W_fb rfl (rfl) ?_
  refine W_skip ?_
  refine thenN ?_
  refine W_seq ?_
  refine W_region ?_
  refine WR_val rfl (rn_move) ?_
  refine WR_val rfl (rn_nilCheckP rfl) ?_
  refine WR_val rfl (rn_fieldAddr (off := 0) (by kernel_rfl) rfl) ?_
  refine WR_val rfl (rn_fieldAddr (off := 0) (by kernel_rfl) rfl) ?_
  refine WR_val rfl (rn_load rfl (Ld.row1 hx (by kernel_rfl) rfl)) ?_
  refine WR_val rfl (rn_assign) ?_
  refine WR_nil ?_
  refine thenN ?_
  refine W_ret ?_
  refine ret_ret [_] ⟨rfl, trivial⟩ ?_
  exact ⟨rfl, rfl⟩
set_option maxRecDepth 20000 in
theorem since21 (h : LgAt g x Y lo L D G w) : Calls Try.prog 21 [.pointer (some ⟨x, 0, none⟩)].toArray w (Ret fun v w' => v = .int .u64 (G.since : Int) ∧ w = w') := by
  obtain ⟨hD, hx, hge, hni⟩ := h
  obtain ⟨c, si, sz, nu, at_, de⟩ := G
  dsimp only [lgV] at *
  refine calls_W (fn := Try.f21) (rs := [.tmp 2]) (n := 10) Try.func21 rfl rfl Try.ntmps21 (by kernel_rfl) rfl ?_
  refine W_seq ?_
  refine W_region ?_
  refine WR_val rfl (rn_assign) ?_
  refine WR_nil ?_
  refine thenN ?_
  refine W_seq ?_
  refine W_seq ?_
  refine W_region ?_
  refine WR_val rfl (rn_move) ?_
  refine WR_val rfl (rn_eqlP1 (by kernel_rfl) rfl rfl) ?_
  refine WR_nil ?_
  refine thenN ?_
  refine W_fb rfl (rfl) ?_
  refine W_skip ?_
  refine thenN ?_
  refine W_seq ?_
  refine W_region ?_
  refine WR_val rfl (rn_move) ?_
  refine WR_val rfl (rn_nilCheckP rfl) ?_
  refine WR_val rfl (rn_fieldAddr (off := 0) (by kernel_rfl) rfl) ?_
  refine WR_val rfl (rn_fieldAddr (off := 1) (by kernel_rfl) rfl) ?_
  refine WR_val rfl (rn_load rfl (Ld.row1 hx (by kernel_rfl) rfl)) ?_
  refine WR_val rfl (rn_assign) ?_
  refine WR_nil ?_
  refine thenN ?_
  refine W_ret ?_
  refine ret_ret [_] ⟨rfl, trivial⟩ ?_
  exact ⟨rfl, rfl⟩
set_option maxRecDepth 20000 in
theorem len22 (h : LgAt g x Y lo L D G w) : Calls Try.prog 22 [.pointer (some ⟨x, 0, none⟩)].toArray w (Ret fun v w' => v = .int .i64 (G.num : Int) ∧ w = w') := by
  obtain ⟨hD, hx, hge, hni⟩ := h
  obtain ⟨c, si, sz, nu, at_, de⟩ := G
  dsimp only [lgV] at *
  refine calls_W (fn := Try.f22) (rs := [.tmp 2]) (n := 9) Try.func22 rfl rfl Try.ntmps22 (by kernel_rfl) rfl ?_
  refine W_seq ?_
  refine W_region ?_
  refine WR_val rfl (rn_assign) ?_
  refine WR_nil ?_
  refine thenN ?_
  refine W_seq ?_
  refine W_seq ?_
  refine W_region ?_
  refine WR_val rfl (rn_move) ?_
  refine WR_val rfl (rn_eqlP1 (by kernel_rfl) rfl rfl) ?_
  refine WR_nil ?_
  refine thenN ?_
  refine W_fb rfl (rfl) ?_
  refine W_skip ?_
  refine thenN ?_
  refine W_seq ?_
  refine W_region ?_
  refine WR_val rfl (rn_move) ?_
  refine WR_val rfl (rn_nilCheckP rfl) ?_
  refine WR_val rfl (rn_fieldAddr (off := 4) (by kernel_rfl) rfl) ?_
  refine WR_val rfl (rn_load rfl (Ld.row1 hx (by kernel_rfl) rfl)) ?_
  refine WR_val rfl (rn_assign) ?_
  refine WR_nil ?_
  refine thenN ?_
  refine W_ret ?_
  refine ret_ret [_] ⟨rfl, trivial⟩ ?_
  exact ⟨rfl, rfl⟩
set_option maxRecDepth 20000 in
theorem dead23 (h : LgAt g x Y lo L D G w) : Calls Try.prog 23 [.pointer (some ⟨x, 0, none⟩)].toArray w (Ret fun v w' => v = .bool G.dead ∧ w = w') := by
  obtain ⟨hD, hx, hge, hni⟩ := h
  obtain ⟨c, si, sz, nu, at_, de⟩ := G
  dsimp only [lgV] at *
  refine calls_W (fn := Try.f23) (rs := [.tmp 2]) (n := 11) Try.func23 rfl rfl Try.ntmps23 (by kernel_rfl) rfl ?_
  refine W_seq ?_
  refine W_region ?_
  refine WR_val rfl (rn_assign) ?_
  refine WR_nil ?_
  refine thenN ?_
  refine W_seq ?_
  refine W_region ?_
  refine WR_val rfl (rn_move) ?_
  refine WR_val rfl (rn_neqP1 (by kernel_rfl) rfl rfl) ?_
  refine WR_val rfl (rn_move) ?_
  refine WR_tb 5 rfl (rfl) ?_
  refine WR_yes rfl ?_
  refine WR_val rfl (rn_move) ?_
  refine WR_yes rfl ?_
  refine WR_val rfl (rn_nilCheckP rfl) ?_
  refine WR_yes rfl ?_
  refine WR_val rfl (rn_fieldAddr (off := 6) (by kernel_rfl) rfl) ?_
  refine WR_yes rfl ?_
  refine WR_val rfl (rn_load rfl (Ld.row1 hx (by kernel_rfl) rfl)) ?_
  refine WR_val rfl (rn_pick_t rfl) ?_
  refine WR_val rfl (rn_assign) ?_
  refine WR_nil ?_
  refine thenN ?_
  refine W_ret ?_
  refine ret_ret [_] ⟨rfl, trivial⟩ ?_
  exact ⟨rfl, rfl⟩
end
end Go.Proofs.Ytkkgahgpemepeaa

/- Rows written behind the records; a record committed; a log truncated. -/
namespace Go.Proofs.Ytkkgahgpemepeaa
open Go Go.RowKit Coup

/-- Sectors written one by one, from at on, until one write fails: the disk, and whether all went well. -/
def writesW (D : Dk) (at_ : Nat) : List Sec → Dk × Bool
  | [] => (D, true)
  | s :: l => if stepOk D then writesW (writeA D (at_ : Int) s) (at_ + 1) l else (writeA D (at_ : Int) s, false)
theorem writesW_snoc : ∀ (l : List Sec) (D : Dk) (a : Nat) (s : Sec), (writesW D a l).2 = true → writesW D a (l ++ [s]) = (writeA (writesW D a l).1 ((a + l.length : Nat) : Int) s, stepOk (writesW D a l).1)
  | [], D, a, s, _ => by
    simp only [List.nil_append, writesW, List.length_nil, Nat.add_zero]
    split
    · rename_i h; rw [h]
    · rename_i h; cases hx : stepOk D with
      | true => exact absurd hx h
      | false => rfl
  | t :: l, D, a, s, h => by
    rw [List.cons_append, writesW]
    rw [writesW] at h ⊢
    by_cases hs : stepOk D = true
    · rw [if_pos hs] at h ⊢
      rw [if_pos hs, writesW_snoc l _ _ s h, List.length_cons, show a + 1 + l.length = a + (l.length + 1) by omega]
    · rw [if_neg hs] at h; cases h
/-- A failure is the end. -/
theorem writesW_bad : ∀ (l m : List Sec) (D : Dk) (a : Nat), (writesW D a l).2 = false → writesW D a (l ++ m) = writesW D a l
  | [], m, D, a, h => by cases h
  | t :: l, m, D, a, h => by
    rw [List.cons_append, writesW]
    rw [writesW] at h ⊢
    by_cases hs : stepOk D = true
    · rw [if_pos hs] at h ⊢
      rw [if_pos hs, writesW_bad l m _ _ h]
    · rw [if_neg hs, if_neg hs]
theorem writeA_len (D : Dk) (i : Int) (s : Sec) : (writeA D i s).V.length = D.V.length := by
  unfold writeA writeD
  split
  · split
    · show ((stepD D).V.set _ _).length = _
      rw [List.length_set, stepD_V]
    · rw [stepD_V]
  · rfl
theorem writeA_short {D : Dk} {k : Nat} (h : shortD D k) (i : Int) (s : Sec) : shortD (writeA D i s) (k + 1) := by
  unfold writeA writeD
  split
  · rename_i hin
    obtain ⟨m, rfl, hm⟩ := inD_nat hin
    have hsh := h.ver hm
    split
    · intro v hv
      rcases List.mem_or_eq_of_mem_set hv with e | e
      · rw [stepD_V] at e; exact Nat.le_trans (h v e) (by omega)
      · rw [e, List.length_append, List.length_singleton, Int.toNat_natCast]; omega
    · intro v hv; rw [stepD_V] at hv; exact Nat.le_trans (h v hv) (by omega)
  · exact short_of h (by omega)
theorem writesW_len : ∀ (l : List Sec) (D : Dk) (a : Nat), (writesW D a l).1.V.length = D.V.length
  | [], D, a => rfl
  | t :: l, D, a => by
    have h : (writeA D (a : Int) t).V.length = D.V.length := writeA_len _ _ _
    rw [writesW]
    split
    · rw [writesW_len l, h]
    · exact h
theorem writesW_short : ∀ (l : List Sec) (D : Dk) (a k : Nat), shortD D k → shortD (writesW D a l).1 (k + l.length)
  | [], D, a, k, h => h
  | t :: l, D, a, k, h => by
    have h1 : shortD (writeA D (a : Int) t) (k + 1) := writeA_short h _ _
    rw [writesW, List.length_cons]
    split
    · exact short_of (writesW_short l _ _ _ h1) (by omega)
    · exact short_of h1 (by omega)
/-- The sectors that bytes are cut into. -/
def secsOf (b : List UInt8) (n : Nat) : List Sec := (List.range n).map fun i => (b.drop (128 * i)).take 128
theorem secsOf_len (b : List UInt8) (n : Nat) : (secsOf b n).length = n := by simp [secsOf]
theorem secsOf_get (b : List UInt8) {n i : Nat} (h : i < n) : (secsOf b n)[i]? = some ((b.drop (128 * i)).take 128) := by
  rw [secsOf, List.getElem?_map, List.getElem?_range h]; rfl
theorem secsOf_ok {b : List UInt8} {n : Nat} (h : b.length = 128 * n) : secsOk (secsOf b n) := fun s hs => by
  obtain ⟨i, hi, rfl⟩ := List.mem_map.1 hs
  have := List.mem_range.1 hi
  rw [List.length_take, List.length_drop]; omega
theorem secsOf_snoc (b : List UInt8) (n : Nat) : secsOf b (n + 1) = secsOf b n ++ [(b.drop (128 * n)).take 128] := by simp [secsOf, List.range_succ]
theorem secsOf_flat (b : List UInt8) : ∀ n, (secsOf b n).flatten = b.take (128 * n)
  | 0 => rfl
  | n + 1 => by
    rw [secsOf_snoc, List.flatten_append, secsOf_flat b n, List.flatten_singleton, Nat.mul_succ, List.take_add]
section
variable {Y : World → List Nat → Prop} [Thing Y] {g x lo : Nat} {L : List Nat} {D : Dk} {G : Lg} {w : World}
/-- What the writing of a row leaves, and answers. -/
def putW (D : Dk) (a : Nat) (R : List Sec) : Dk × Bool := if (writesW D a R).2 then (flushD (writesW D a R).1, stepOk (writesW D a R).1) else writesW D a R
set_option maxRecDepth 20000 in
set_option maxHeartbeats 1000000 in
theorem write47 (h : LgAt g x Y lo L D G w) (R : List Sec) (hR : secsOk R) (p n c : Nat) (hp : p ∈ L) (hn : R.length = n) (hrow : SlAt w (some ⟨p, 0, none⟩) n 128 (bv R.flatten)) (hfit : 1 + G.at_ + n ≤ D.V.length) (hsh : shortD D 80000) (hn2 : n ≤ 4000) :
    Calls Try.prog 47 [.pointer (some ⟨x, 0, none⟩), .slice (some ⟨p, 0, none⟩) n c].toArray w (Ret fun v w' => v = .int .i64 (if (putW D (1 + G.at_) R).2 then 0 else 10) ∧ LgAt g x Y lo L (putW D (1 + G.at_) R).1 G w' ∧ LoL lo L w w') := by
  obtain ⟨hD, hx, hge, hni⟩ := h
  have hLL := LoL.refl lo L w
  have hxl := hx.lt
  have hpl := hD.lt p (List.mem_cons_of_mem _ hp)
  have hVn := (tOk hD).1.n
  obtain ⟨cc, si, sz, nu, at_, de⟩ := G
  dsimp only [lgV] at *
  refine calls_W (fn := Try.f47) (rs := [.tmp 4]) (n := 37) Try.func47 rfl rfl Try.ntmps47 (by kernel_rfl) rfl ?_
  refine W_seq ?_
  refine W_region ?_
  refine WR_val rfl (rn_assign) ?_
  refine WR_nil ?_
  refine thenN ?_
  refine W_seq ?_
  refine W_seq ?_
  refine W_region ?_
  refine WR_val rfl (rn_move) ?_
  refine WR_val rfl (rn_lenSl (e := 63) (sz := 128) (by kernel_rfl) rfl rfl) ?_
  refine WR_val rfl (rn_move) ?_
  refine WR_nil ?_
  refine thenN ?_
  refine W_block ?_
  refine W_loop (α := Nat) 0 (fun i => [(10, .int .i64 (i : Nat)), (9, .int .i64 (n : Int)), (8, .slice (some ⟨p, 0, none⟩) n c), (0, .pointer (some ⟨x, 0, none⟩))])
    (fun i w' => i ≤ n ∧ (writesW D (1 + at_) (R.take i)).2 = true ∧ LgAt g x Y lo L (writesW D (1 + at_) (R.take i)).1 ⟨cc, si, sz, nu, at_, de⟩ w' ∧ SlAt w' (some ⟨p, 0, none⟩) n 128 (bv R.flatten) ∧ LoL lo L w w') (fun i => n - i)
    ⟨rfl, rfl, rfl, rfl, rfl⟩ ⟨Nat.zero_le _, rfl, ⟨hD, hx, hge, hni⟩, hrow, hLL⟩ ?_
  clear hD hLL hx hrow
  rintro i f wr ⟨hi, hok, ⟨hD, hx, -, -⟩, hrow, hLL⟩
  dsimp only [lgV] at hx
  have hsz := hLL.size
  have hshi := writesW_short (R.take i) D (1 + at_) 80000 hsh
  have hlni := writesW_len (R.take i) D (1 + at_)
  rw [List.length_take] at hshi
  refine W_seq ?_
  refine W_region ?_
  refine WR_val rfl (rn_lss rfl rfl) ?_
  refine WR_nil ?_
  refine thenN ?_
  refine W_seq ?_
  refine W_ifp rfl (fun hlt => ?_) (fun hlt => ?_)
  ·
    refine W_skip ?_
    refine thenN ?_
    refine W_seq ?_
    refine W_block ?_
    refine W_seq ?_
    refine W_region ?_
    have hix : ∃ s, R[i]? = some s := ⟨_, List.getElem?_eq_getElem (by omega)⟩
    obtain ⟨s, hs⟩ := hix
    have htk : R.take (i + 1) = R.take i ++ [s] := by rw [List.take_add_one, hs]; rfl
    have hsn := writesW_snoc (R.take i) D (1 + at_) s hok
    rw [← htk, List.length_take, Nat.min_eq_left (by omega)] at hsn
    have hsl : s.length = 128 := hR s (List.mem_of_getElem? hs)
    refine WR_val rfl (rn_move) ?_
    refine WR_val rfl (rn_indexSl (e := 63) (sz := 128) (by kernel_rfl) rfl rfl (i) (by omega) (by omega)) ?_
    refine WR_val rfl (rn_load rfl (ld_sec hrow hR hs)) ?_
    refine WR_mk rfl (mk_alloc (List.replicate 128 (Value.int .u8 0)) (by kernel_rfl) (fun g6 w6 hg6 hr6 hb6 => ?_))
    have lt_x_g6 : x < g6 := Nat.lt_of_lt_of_le hx.lt hg6
    replace hD := hD.newc hb6 hg6 hr6.lt
    replace hx := hx.new hb6
    replace hrow := hrow.new hb6
    replace hLL := hLL.new hb6
    refine WR_val rfl (rn_assign) ?_
    refine WR_sk rfl (sk_storeA 128 (_) rfl rfl hr6 (by kernel_rfl) (by first | assumption | (simp; done) | (simp [bv_length, *]; done)) (by first | assumption | (simp; done) | (simp [bv_length, *]; done) | rfl) (by first | exact bv_one _ | assumption | (simp [Value.oneCell']; done)) (fun w901 hr6 ho901 => ?_))
    replace hD := hD.only ho901 (by first | (right; simp; done) | (left; omega))
    replace hx := hx.only ho901 (Nat.ne_of_lt lt_x_g6)
    replace hrow := hrow.only ho901 (by omega)
    replace hLL := hLL.only ho901 (by first | omega | (right; exact ⟨by omega, by assumption⟩))
    refine WR_nil ?_
    refine thenN ?_
    refine W_seq ?_
    refine W_drawL (lo) ((g6 :: x :: L)) (by kernel_rfl) ?_
    intro w902 hb902 hn902 hS902
    replace hD := hD.new hb902
    replace hx := hx.new hb902
    replace hrow := hrow.new hb902
    replace hLL := hLL.new hb902
    replace hr6 := hr6.new hb902
    have hD_d902 := hD
    have hx_d902 := hx
    have hrow_d902 := hrow
    have hLL_d902 := hLL
    have hr6_d902 := hr6
    refine WA_take 0 (by kernel_rfl) rfl (fun _ _ => rn_move) ?_
    refine WA_take 1 (by kernel_rfl) rfl (fun _ _ => rn_nilCheckP rfl) ?_
    refine WA_take 2 (by kernel_rfl) rfl (fun _ _ => rn_fieldAddr (off := 2) (by kernel_rfl) rfl) ?_
    refine WA_take 3 (by kernel_rfl) rfl (fun w' hS' => rn_load rfl (Ld.row1 (hx_d902.kpd hS' (by first | (simp; done) | (simp; omega) | (simp [*]; done) | exact notLL (Or.inl (by omega)) | exact notLL (Or.inr (by simp)) | exact fun g hm => Nat.le_trans (by omega) (inLL hm).1 | (intro b o e; cases e; exact notLL (Or.inl (by omega))) | (intro b hm; have := (hu.lt b (Option.mem_toList.1 hm)).1; omega) | (intro b o e; cases e; intro hm; have := (hu.lt _ (Option.mem_toList.1 hm)).1; omega))) (by kernel_rfl) rfl)) ?_
    refine WA_take 4 (by kernel_rfl) rfl (fun _ _ => rn_move) ?_
    refine WA_take 5 (by kernel_rfl) rfl (fun _ _ => rn_nilCheckP rfl) ?_
    refine WA_take 6 (by kernel_rfl) rfl (fun _ _ => rn_fieldAddr (off := 5) (by kernel_rfl) rfl) ?_
    refine WA_take 7 (by kernel_rfl) rfl (fun w' hS' => rn_load rfl (Ld.row1 (hx_d902.kpd hS' (by first | (simp; done) | (simp; omega) | (simp [*]; done) | exact notLL (Or.inl (by omega)) | exact notLL (Or.inr (by simp)) | exact fun g hm => Nat.le_trans (by omega) (inLL hm).1 | (intro b o e; cases e; exact notLL (Or.inl (by omega))) | (intro b hm; have := (hu.lt b (Option.mem_toList.1 hm)).1; omega) | (intro b o e; cases e; intro hm; have := (hu.lt _ (Option.mem_toList.1 hm)).1; omega))) (by kernel_rfl) rfl)) ?_
    refine WA_take 8 (by kernel_rfl) rfl (fun _ _ => rn_add rfl rfl (Coup.w64 (by omega))) ?_
    refine WA_take 9 (by kernel_rfl) rfl (fun _ _ => rn_move) ?_
    refine WA_take 10 (by kernel_rfl) rfl (fun _ _ => rn_add rfl rfl (Coup.w64 (by omega))) ?_
    refine WA_take 11 (by kernel_rfl) rfl (fun w' hS' => rn_load rfl (Ld.rowA (k := 128) (hr6_d902.kpd hS' (by first | (simp; done) | (simp; omega) | (simp [*]; done) | exact notLL (Or.inl (by omega)) | exact notLL (Or.inr (by simp)) | exact fun g hm => Nat.le_trans (by omega) (inLL hm).1 | (intro b o e; cases e; exact notLL (Or.inl (by omega))) | (intro b hm; have := (hu.lt b (Option.mem_toList.1 hm)).1; omega) | (intro b o e; cases e; intro hm; have := (hu.lt _ (Option.mem_toList.1 hm)).1; omega))) (by kernel_rfl) (by kernel_rfl) (by first | (simp; done) | (simp [bv_length, *]; done) | assumption))) ?_
    refine WA_one 12 (by kernel_rfl) ?_
    have hw := tWrite hD ((1 + (at_ : Int)) + (i : Int)) s hsl (short_of hshi (by omega))
    refine WO_ent rfl rfl (rn_call (by kernel_rfl) rfl) (hw) ?_
    rintro _ w27 ⟨rfl, hD, hb27⟩
    have hS903 := hS902.addLL hn902 hb27
    refine ⟨hS903, ?_⟩
    replace hx := hx.kpd hb27.kp (by first | (refine notLL ?_; left; omega) | (refine notLL ?_; right; simp; done) | (intro b o e; cases e; first | (refine notLL ?_; left; omega) | (refine notLL ?_; right; simp; done) | (refine notLL ?_; right; simp [*]; done)) | (intro b hb; refine notLL ?_; left; omega) | (intro b hb e; cases e; exact notLL (by right; simp [*]) hb))
    replace hrow := hrow.kpd hb27.kp (by first | (refine notLL ?_; left; omega) | (refine notLL ?_; right; simp; done) | (intro b o e; cases e; first | (refine notLL ?_; left; omega) | (refine notLL ?_; right; simp; done) | (refine notLL ?_; right; simp [*]; done)) | (intro b hb; refine notLL ?_; left; omega) | (intro b hb e; cases e; exact notLL (by right; simp [*]) hb))
    replace hLL := hLL.ll hb27 (by first | (intro b hb; exact hb) | (intro b hb; simp [hb]; done) | simp)
    replace hr6 := hr6.kpd hb27.kp (by first | (refine notLL ?_; left; omega) | (refine notLL ?_; right; simp; done) | (intro b o e; cases e; first | (refine notLL ?_; left; omega) | (refine notLL ?_; right; simp; done) | (refine notLL ?_; right; simp [*]; done)) | (intro b hb; refine notLL ?_; left; omega) | (intro b hb e; cases e; exact notLL (by right; simp [*]) hb))
    refine WA_take 13 (by kernel_rfl) rfl (fun _ _ => rn_assign) ?_
    refine WA_done (by kernel_rfl) ?_
    refine thenN ?_
    refine W_seq ?_
    refine W_region ?_
    have hin : inD (writesW D (1 + at_) (R.take i)).1 ((1 + (at_ : Int)) + (i : Int)) = true := decide_eq_true (by omega)
    have hcast : (1 + (at_ : Int)) + (i : Int) = ((1 + at_ + i : Nat) : Int) := by omega
    rw [writeE, hin, if_pos rfl]
    rw [hcast] at hD
    refine WR_val rfl (rn_move) ?_
    refine WR_val rfl (rn_neq rfl rfl) ?_
    refine WR_nil ?_
    refine thenN ?_
    refine W_ifp rfl (fun hne => ?_) (fun hne => ?_)
    ·
      refine W_seq ?_
      refine W_region ?_
      refine WR_val rfl (rn_move) ?_
      refine WR_val rfl (rn_assign) ?_
      refine WR_nil ?_
      refine thenN ?_
      refine W_ret ?_
      refine blockR ?_
      refine thenR ?_
      refine loopR ?_
      refine blockR ?_
      refine thenR ?_
      refine ret_ret [_] ⟨rfl, trivial⟩ ?_
      have hf : stepOk (writesW D (1 + at_) (R.take i)).1 = false := by cases hq : stepOk (writesW D (1 + at_) (R.take i)).1 with | false => rfl | true => simp [hq] at hne
      rw [hf] at hsn
      have hbd := writesW_bad (R.take (i + 1)) (R.drop (i + 1)) D (1 + at_) (by rw [hsn])
      rw [List.take_append_drop, hsn] at hbd
      rw [putW, hbd]
      exact ⟨by rw [hf]; rfl, ⟨hD.weak (fun b hb => List.mem_cons_of_mem _ hb), hx, hge, hni⟩, hLL⟩
    ·
      have hf : stepOk (writesW D (1 + at_) (R.take i)).1 = true := by cases hq : stepOk (writesW D (1 + at_) (R.take i)).1 with | true => rfl | false => simp [hq] at hne
      refine W_skip ?_
      refine blockN ?_
      refine thenN ?_
      refine W_region ?_
      refine WR_val rfl (rn_add rfl rfl (Coup.w64 (by omega))) ?_
      refine WR_val rfl (rn_move) ?_
      refine WR_nil ?_
      refine loopN ⟨i + 1, by omega, ⟨by go_num, rfl, rfl, rfl, rfl⟩, by omega, by rw [hsn]; exact hf, ?_, hrow, hLL⟩
      rw [hsn]
      exact ⟨hD.weak (fun b hb => List.mem_cons_of_mem _ hb), hx, hge, hni⟩
  ·
    have hin : i = n := by omega
    subst hin
    rw [List.take_of_length_le (by omega)] at hok hD hshi hlni
    refine W_exit ?_
    refine thenX ?_
    refine loopX ?_
    refine blockX ?_
    refine thenN ?_
    refine W_seq ?_
    refine W_region ?_
    refine WR_val rfl (rn_move) ?_
    refine WR_val rfl (rn_nilCheckP rfl) ?_
    refine WR_val rfl (rn_fieldAddr (off := 2) (by kernel_rfl) rfl) ?_
    refine WR_val rfl (rn_load rfl (Ld.row1 hx (by kernel_rfl) rfl)) ?_
    refine WR_ent rfl (rn_call (by kernel_rfl) rfl) (tFlush hD) ?_
    rintro _ w36 ⟨rfl, hD, hb36⟩
    replace hx := hx.kpd hb36.kp (by first | (refine notLL ?_; left; omega) | (refine notLL ?_; right; simp; done) | (intro b o e; cases e; first | (refine notLL ?_; left; omega) | (refine notLL ?_; right; simp; done) | (refine notLL ?_; right; simp [*]; done)) | (intro b hb; refine notLL ?_; left; omega) | (intro b hb e; cases e; exact notLL (by right; simp [*]) hb))
    replace hrow := hrow.kpd hb36.kp (by first | (refine notLL ?_; left; omega) | (refine notLL ?_; right; simp; done) | (intro b o e; cases e; first | (refine notLL ?_; left; omega) | (refine notLL ?_; right; simp; done) | (refine notLL ?_; right; simp [*]; done)) | (intro b hb; refine notLL ?_; left; omega) | (intro b hb e; cases e; exact notLL (by right; simp [*]) hb))
    replace hLL := hLL.ll hb36 (by first | (intro b hb; exact hb) | (intro b hb; simp [hb]; done) | simp)
    refine WR_val rfl (rn_assign) ?_
    refine WR_nil ?_
    refine thenN ?_
    refine W_ret ?_
    refine ret_ret [_] ⟨rfl, trivial⟩ ?_
    rw [putW, hok, if_pos rfl]
    exact ⟨rfl, ⟨hD, hx, hge, hni⟩, hLL⟩
/-- The log after a truncation that went well. -/
def truncG (G : Lg) : Lg := { G with count := G.count + 1, since := G.count + 1, num := 0, at_ := 0 }
set_option maxRecDepth 20000 in
theorem trunc18 (h : LgAt g x Y lo L D G w) (hc : G.count ≤ 4611686018427387904) (hsh : shortD D 90000) :
    Calls Try.prog 18 [.pointer (some ⟨x, 0, none⟩)].toArray w (Ret fun v w' => ∃ e : Int, v = .int .i64 e ∧ LoL lo L w w' ∧
      ((G.dead = true ∧ e = 10 ∧ LgAt g x Y lo L D G w') ∨ (G.dead = false ∧ G.count = 4611686018427387904 ∧ e = 8 ∧ LgAt g x Y lo L D G w') ∨
        (G.dead = false ∧ G.count < 4611686018427387904 ∧ saveE D (G.count + 1) (G.count + 1) = false ∧ e = 10 ∧ LgAt g x Y lo L (saveD D (G.count + 1) (G.count + 1)) { G with dead := true } w') ∨
        (G.dead = false ∧ G.count < 4611686018427387904 ∧ saveE D (G.count + 1) (G.count + 1) = true ∧ e = 0 ∧ LgAt g x Y lo L (saveD D (G.count + 1) (G.count + 1)) (truncG G) w'))) := by
  have hLL := LoL.refl lo L w
  have hrd := ready45 h
  have hG := h
  have hxl := h.lt
  obtain ⟨dd, hdd⟩ : ∃ dd, G.dead = dd := ⟨_, rfl⟩
  rw [hdd] at hrd ⊢
  refine calls_W (fn := Try.f18) (rs := [.tmp 2]) (n := 33) Try.func18 rfl rfl Try.ntmps18 (by kernel_rfl) rfl ?_
  refine W_seq ?_
  refine W_region ?_
  refine WR_val rfl (rn_assign) ?_
  refine WR_nil ?_
  refine thenN ?_
  refine W_seq ?_
  refine W_seq ?_
  refine W_region ?_
  refine WR_val rfl (rn_move) ?_
  refine WR_ent rfl (rn_call (by kernel_rfl) rfl) (hrd) ?_
  rintro _ _ ⟨rfl, rfl⟩
  refine WR_val rfl (rn_assign) ?_
  refine WR_nil ?_
  refine thenN ?_
  refine W_seq ?_
  refine W_region ?_
  refine WR_val rfl (rn_move) ?_
  refine WR_val rfl (rn_neq rfl rfl) ?_
  refine WR_nil ?_
  refine thenN ?_
  refine W_ifp rfl (fun hne => ?_) (fun hne => ?_)
  ·
    refine W_seq ?_
    refine W_region ?_
    refine WR_val rfl (rn_move) ?_
    refine WR_val rfl (rn_assign) ?_
    refine WR_nil ?_
    refine thenN ?_
    refine W_ret ?_
    refine thenR ?_
    refine ret_ret [_] ⟨rfl, trivial⟩ ?_
    have hf : dd = true := by cases dd with | true => rfl | false => simp at hne
    subst hf
    exact ⟨_, rfl, hLL, .inl ⟨rfl, rfl, hG⟩⟩
  ·
    have hf : dd = false := by cases dd with | false => rfl | true => simp at hne
    subst hf
    refine W_skip ?_
    refine thenN ?_
    refine W_seq ?_
    refine W_seq ?_
    refine W_region ?_
    refine WR_val rfl (rn_move) ?_
    refine WR_val rfl (rn_nilCheckP rfl) ?_
    refine WR_val rfl (rn_fieldAddr (off := 0) (by kernel_rfl) rfl) ?_
    refine WR_val rfl (rn_fieldAddr (off := 0) (by kernel_rfl) rfl) ?_
    refine WR_val rfl (rn_load rfl ((Ld.row1 hG.rowx (by kernel_rfl) rfl))) ?_
    refine WR_val rfl (rn_eql rfl rfl) ?_
    refine WR_nil ?_
    refine thenN ?_
    refine W_ifp rfl (fun he => ?_) (fun he => ?_)
    ·
      refine W_seq ?_
      refine W_region ?_
      refine WR_val rfl (rn_assign) ?_
      refine WR_nil ?_
      refine thenN ?_
      refine W_ret ?_
      refine thenR ?_
      refine ret_ret [_] ⟨rfl, trivial⟩ ?_
      exact ⟨_, rfl, hLL, .inr (.inl ⟨rfl, by omega, rfl, hG⟩)⟩
    ·
      have hcl : G.count < 4611686018427387904 := by omega
      have hobt : ∃ ok, saveE D (G.count + 1) (G.count + 1) = ok := ⟨_, rfl⟩
      obtain ⟨ok, hok⟩ := hobt
      have hnx := next48 hG (G.count + 1) (by omega) (by omega) hsh
      rw [hok] at hnx ⊢
      refine W_skip ?_
      refine thenN ?_
      refine W_seq ?_
      refine W_seq ?_
      refine W_region ?_
      refine WR_val rfl (rn_move) ?_
      refine WR_val rfl (rn_move) ?_
      refine WR_val rfl (rn_nilCheckP rfl) ?_
      refine WR_val rfl (rn_fieldAddr (off := 0) (by kernel_rfl) rfl) ?_
      refine WR_val rfl (rn_fieldAddr (off := 0) (by kernel_rfl) rfl) ?_
      refine WR_val rfl (rn_load rfl ((Ld.row1 hG.rowx (by kernel_rfl) rfl))) ?_
      refine WR_val rfl (rn_add rfl rfl (wu64 (by omega))) ?_
      refine WR_ent rfl (rn_call (by kernel_rfl) rfl) (hnx) ?_
      rintro _ w23 ⟨rfl, hG, hb23⟩
      replace hLL := hLL.ll hb23 (by first | (intro b hb; exact hb) | (intro b hb; simp [hb]; done) | simp)
      refine WR_val rfl (rn_assign) ?_
      refine WR_nil ?_
      refine thenN ?_
      refine W_seq ?_
      refine W_region ?_
      refine WR_val rfl (rn_move) ?_
      refine WR_val rfl (rn_neq rfl rfl) ?_
      refine WR_nil ?_
      refine thenN ?_
      refine W_ifp rfl (fun hn2 => ?_) (fun hn2 => ?_)
      ·
        refine W_seq ?_
        refine W_region ?_
        refine WR_val rfl (rn_move) ?_
        refine WR_val rfl (rn_assign) ?_
        refine WR_nil ?_
        refine thenN ?_
        refine W_ret ?_
        refine thenR ?_
        refine ret_ret [_] ⟨rfl, trivial⟩ ?_
        have hf : ok = false := by cases ok with | false => rfl | true => simp at hn2
        subst hf
        exact ⟨_, rfl, hLL, .inr (.inr (.inl ⟨rfl, hcl, rfl, rfl, hG⟩))⟩
      ·
        have hf : ok = true := by cases ok with | true => rfl | false => simp at hn2
        subst hf
        obtain ⟨hD, hx, hge, hni⟩ := hG
        obtain ⟨c, si, sz, nu, at_, de⟩ := G
        dsimp only [lgV, nextG] at hx hdd
        subst hdd
        rw [if_pos rfl] at hx
        dsimp only at hx
        refine W_skip ?_
        refine thenN ?_
        refine W_seq ?_
        refine W_region ?_
        refine WR_val rfl (rn_move) ?_
        refine WR_val rfl (rn_move) ?_
        refine WR_val rfl (rn_nilCheckP rfl) ?_
        refine WR_val rfl (rn_fieldAddr (off := 4) (by kernel_rfl) rfl) ?_
        refine WR_sk rfl (sk_store1 rfl rfl rfl rfl hx (by kernel_rfl) (by first | (simp only [List.length_replicate]; omega) | (simp only [iv_length]; omega) | (simp only [bv_length, List.length_set]; omega) | simp) (fun w901 hx ho901 => ?_))
        replace hLL := hLL.only ho901 (by first | omega | (right; exact ⟨by omega, by assumption⟩))
        replace hD := hD.only ho901 (by first | (right; simp; done) | (left; omega))
        refine WR_val rfl (rn_nilCheckP rfl) ?_
        refine WR_val rfl (rn_fieldAddr (off := 5) (by kernel_rfl) rfl) ?_
        refine WR_sk rfl (sk_store1 rfl rfl rfl rfl hx (by kernel_rfl) (by first | (simp only [List.length_replicate]; omega) | (simp only [iv_length]; omega) | (simp only [bv_length, List.length_set]; omega) | simp) (fun w902 hx ho902 => ?_))
        replace hLL := hLL.only ho902 (by first | omega | (right; exact ⟨by omega, by assumption⟩))
        replace hD := hD.only ho902 (by first | (right; simp; done) | (left; omega))
        refine WR_nil ?_
        refine thenN ?_
        refine W_seq ?_
        refine W_region ?_
        refine WR_val rfl (rn_assign) ?_
        refine WR_nil ?_
        refine thenN ?_
        refine W_ret ?_
        refine ret_ret [_] ⟨rfl, trivial⟩ ?_
        exact ⟨_, rfl, hLL, .inr (.inr (.inr ⟨rfl, hcl, rfl, rfl, ⟨hD, hx, hge, hni⟩⟩))⟩
end
end Go.Proofs.Ytkkgahgpemepeaa

/- A record committed. -/
namespace Go.Proofs.Ytkkgahgpemepeaa
open Go Go.RowKit Coup

/-- A log, and the disk it lies on. -/
structure LgOk (D : Dk) (G : Lg) : Prop where
  s1 : 1 ≤ G.since
  sc : G.since ≤ G.count
  cm : G.count ≤ 4611686018427387904
  sz4 : 4 ≤ G.size
  szm : G.size ≤ 4000
  at_ : G.at_ ≤ G.size
  num : G.num ≤ G.at_
  fit : 1 + G.size ≤ D.V.length
def rowW (G : Lg) (R : Rec) : List Sec := secsOf (rowB G.count G.num (recB R)) (needN (516 * R.length))
theorem rowW_len (G : Lg) (R : Rec) : (rowW G R).length = needN (516 * R.length) := secsOf_len _ _
theorem rowW_flat (G : Lg) {R : Rec} (h : chsOk R) : (rowW G R).flatten = rowB G.count G.num (recB R) ∧ secsOk (rowW G R) := by
  have hl := rowB_len G.count G.num (recB R)
  rw [recB_len h] at hl
  refine ⟨?_, secsOf_ok hl⟩
  rw [rowW, secsOf_flat, ← hl, List.take_length]
def commitR (D : Dk) (G : Lg) (R : Rec) : Int × Dk × Lg :=
  if G.dead then (10, D, G) else if mayR R = false then (2, D, G) else if G.size < G.at_ + (rowW G R).length then (8, D, G)
  else if (putW D (1 + G.at_) (rowW G R)).2 then (0, (putW D (1 + G.at_) (rowW G R)).1, { G with at_ := G.at_ + (rowW G R).length, num := G.num + 1 }) else (10, (putW D (1 + G.at_) (rowW G R)).1, { G with dead := true })
section
variable {Y : World → List Nat → Prop} [Thing Y] {g x lo : Nat} {L : List Nat} {D : Dk} {G : Lg} {w : World}
set_option maxRecDepth 20000 in
omit [Thing Y] in
theorem commit_dead (h : LgAt g x Y lo L D G w) (hd : G.dead = true) (R : Rec) (p : Option Addr) (n cp : Nat) :
    Calls Try.prog 17 [.pointer (some ⟨x, 0, none⟩), .slice p n cp].toArray w (Ret fun v w' => v = .int .i64 (commitR D G R).1 ∧ LgAt g x Y lo L (commitR D G R).2.1 (commitR D G R).2.2 w' ∧ LoL lo L w w') := by
  have hLL := LoL.refl lo L w
  have hrd := ready45 h
  have hG := h
  rw [hd] at hrd
  rw [commitR, hd, if_pos rfl]
  refine calls_W (fn := Try.f17) (rs := [.tmp 4]) (n := 72) Try.func17 rfl rfl Try.ntmps17 (by kernel_rfl) rfl ?_
  refine W_seq ?_
  refine W_region ?_
  refine WR_val rfl (rn_assign) ?_
  refine WR_nil ?_
  refine thenN ?_
  refine W_seq ?_
  refine W_seq ?_
  refine W_region ?_
  refine WR_val rfl (rn_move) ?_
  refine WR_ent rfl (rn_call (by kernel_rfl) rfl) (hrd) ?_
  rintro _ _ ⟨rfl, rfl⟩
  refine WR_val rfl (rn_assign) ?_
  refine WR_nil ?_
  refine thenN ?_
  refine W_seq ?_
  refine W_region ?_
  refine WR_val rfl (rn_move) ?_
  refine WR_val rfl (rn_neq rfl rfl) ?_
  refine WR_nil ?_
  refine thenN ?_
  refine W_tp rfl ((by simp)) ?_
  refine W_seq ?_
  refine W_region ?_
  refine WR_val rfl (rn_move) ?_
  refine WR_val rfl (rn_assign) ?_
  refine WR_nil ?_
  refine thenN ?_
  refine W_ret ?_
  refine thenR ?_
  refine ret_ret [_] ⟨rfl, trivial⟩ ?_
  exact ⟨rfl, hG, hLL⟩
set_option maxRecDepth 20000 in
theorem commit_no (h : LgAt g x Y lo L D G w) (hd : G.dead = false) (R : Rec) (hR : chsOk R) (hm : mayR R = false) (p : Option Addr) (n cp : Nat) (hs : SlAt w p n 513 (chsV R)) (hn : R.length = n) (hn2 : n ≤ 1000000) :
    Calls Try.prog 17 [.pointer (some ⟨x, 0, none⟩), .slice p n cp].toArray w (Ret fun v w' => v = .int .i64 (commitR D G R).1 ∧ LgAt g x Y lo L (commitR D G R).2.1 (commitR D G R).2.2 w' ∧ LoL lo L w w') := by
  have hLL := LoL.refl lo L w
  have hrd := ready45 h
  have hG := h
  have hby := (bytes9 R hR p n cp w hs hn hn2).to fun v w' (h : ((mayR R = true ∧ ∃ g o c, v = .tuple #[.slice (some ⟨g, o, none⟩) (516 * n) c, .int .i64 0] ∧ w.heap.size ≤ g ∧ 516 * n ≤ c ∧ SlAt w' (some ⟨g, o, none⟩) (516 * n) 1 (bv (recB R))) ∨ (mayR R = false ∧ v = .tuple #[.slice none 0 0, .int .i64 2])) ∧ Below w.heap.size w w') => (show v = .tuple #[.slice none 0 0, .int .i64 2] ∧ Below w.heap.size w w' from ⟨h.1.elim (fun h => by rw [hm] at h; cases h.1) fun h => h.2, h.2⟩)
  rw [hd] at hrd
  rw [commitR, hd, if_neg (by simp), if_pos hm]
  refine calls_W (fn := Try.f17) (rs := [.tmp 4]) (n := 72) Try.func17 rfl rfl Try.ntmps17 (by kernel_rfl) rfl ?_
  refine W_seq ?_
  refine W_region ?_
  refine WR_val rfl (rn_assign) ?_
  refine WR_nil ?_
  refine thenN ?_
  refine W_seq ?_
  refine W_seq ?_
  refine W_region ?_
  refine WR_val rfl (rn_move) ?_
  refine WR_ent rfl (rn_call (by kernel_rfl) rfl) (hrd) ?_
  rintro _ _ ⟨rfl, rfl⟩
  refine WR_val rfl (rn_assign) ?_
  refine WR_nil ?_
  refine thenN ?_
  refine W_seq ?_
  refine W_region ?_
  refine WR_val rfl (rn_move) ?_
  refine WR_val rfl (rn_neq rfl rfl) ?_
  refine WR_nil ?_
  refine thenN ?_
  refine W_fp rfl ((by simp)) ?_
  refine W_skip ?_
  refine thenN ?_
  refine W_seq ?_
  refine W_region ?_
  refine WR_val rfl (rn_move) ?_
  refine WR_ent rfl (rn_call (by kernel_rfl) rfl) (hby) ?_
  rintro _ w18 ⟨rfl, hb18⟩
  replace hG := hG.new hb18
  replace hLL := hLL.new hb18
  refine WR_val rfl (rn_move) ?_
  refine WR_val rfl (rn_extract rfl rfl) ?_
  refine WR_val rfl (rn_extract rfl rfl) ?_
  refine WR_val rfl (rn_assign) ?_
  refine WR_val rfl (rn_assign) ?_
  refine WR_nil ?_
  refine thenN ?_
  refine W_seq ?_
  refine W_block ?_
  refine W_seq ?_
  refine W_region ?_
  refine WR_val rfl (rn_move) ?_
  refine WR_val rfl (rn_neq rfl rfl) ?_
  refine WR_val rfl (rn_assign) ?_
  refine WR_nil ?_
  refine thenN ?_
  refine W_tp rfl ((by simp)) ?_
  refine W_seq ?_
  refine W_region ?_
  refine WR_val rfl (rn_move) ?_
  refine WR_val rfl (rn_assign) ?_
  refine WR_nil ?_
  refine thenN ?_
  refine W_ret ?_
  refine blockR ?_
  refine thenR ?_
  refine ret_ret [_] ⟨rfl, trivial⟩ ?_
  exact ⟨rfl, hG, hLL⟩
set_option maxRecDepth 20000 in
set_option maxHeartbeats 1000000 in
theorem commit_yes (h : LgAt g x Y lo L D G w) (hok : LgOk D G) (hsh : shortD D 80000) (hd : G.dead = false) (R : Rec) (hR : chsOk R) (hm : mayR R = true) (p : Option Addr) (n cp : Nat) (hs : SlAt w p n 513 (chsV R)) (hn : R.length = n) (hn2 : n ≤ 1000000) :
    Calls Try.prog 17 [.pointer (some ⟨x, 0, none⟩), .slice p n cp].toArray w (Ret fun v w' => v = .int .i64 (commitR D G R).1 ∧ LgAt g x Y lo L (commitR D G R).2.1 (commitR D G R).2.2 w' ∧ LoL lo L w w') := by
  have hLL := LoL.refl lo L w
  have hrd := ready45 h
  have hG := h
  have hby := (bytes9 R hR p n cp w hs hn hn2).to fun v w' (h : ((mayR R = true ∧ ∃ g o c, v = .tuple #[.slice (some ⟨g, o, none⟩) (516 * n) c, .int .i64 0] ∧ w.heap.size ≤ g ∧ 516 * n ≤ c ∧ SlAt w' (some ⟨g, o, none⟩) (516 * n) 1 (bv (recB R))) ∨ (mayR R = false ∧ v = .tuple #[.slice none 0 0, .int .i64 2])) ∧ Below w.heap.size w w') => (show ∃ g o c, v = .tuple #[.slice (some ⟨g, o, none⟩) (516 * n) c, .int .i64 0] ∧ w.heap.size ≤ g ∧ SlAt w' (some ⟨g, o, none⟩) (516 * n) 1 (bv (recB R)) ∧ Below w.heap.size w w' from h.1.elim (fun ⟨_, g, o, c, h1, h2, _, h3⟩ => ⟨g, o, c, h1, h2, h3, h.2⟩) fun h => by rw [hm] at h; cases h.1)
  rw [hd] at hrd
  have hn60 : 1 ≤ n ∧ n ≤ 60 := by
    have := of_decide_eq_true (Bool.and_eq_true_iff.1 hm).1
    rwa [hn] at this
  have hnw := (needW_pos hn60).1
  have hnd := (needW_pos hn60).2
  have hlen := rowW_len G R
  obtain ⟨hfl, hso⟩ := rowW_flat G hR
  have hrl := rowB_len G.count G.num (recB R)
  rw [recB_len hR, hn] at hrl
  rw [hn] at hlen
  have hN : needN (516 * n) ≤ 1000 := by unfold needN manyN; omega
  have hmt : mayT (G.count : Int) (G.num : Int) = true := by
    have h1 := hok.s1
    have h2 := hok.sc
    have h3 := hok.cm
    have h4 := hok.szm
    have h5 := hok.at_
    have h6 := hok.num
    unfold mayT
    rw [decide_eq_true (by omega), decide_eq_true (by unfold maxCount; omega), decide_eq_true (by omega), decide_eq_true (by omega)]; rfl
  have hfit := hok.fit
  have hat := hok.at_
  have hszm := hok.szm
  have hnum := hok.num
  rw [commitR, hd, if_neg (by simp), if_neg (by rw [hm]; simp), hlen]
  generalize rowW G R = RW at *
  generalize hNe : needN (516 * n) = N at *
  obtain ⟨pw, hpw⟩ : ∃ pw, putW D (1 + G.at_) RW = pw := ⟨_, rfl⟩
  rw [hpw]
  obtain ⟨D2, ok⟩ := pw
  refine calls_W (fn := Try.f17) (rs := [.tmp 4]) (n := 72) Try.func17 rfl rfl Try.ntmps17 (by kernel_rfl) rfl ?_
  refine W_seq ?_
  refine W_region ?_
  refine WR_val rfl (rn_assign) ?_
  refine WR_nil ?_
  refine thenN ?_
  refine W_seq ?_
  refine W_seq ?_
  refine W_region ?_
  refine WR_val rfl (rn_move) ?_
  refine WR_ent rfl (rn_call (by kernel_rfl) rfl) (hrd) ?_
  rintro _ _ ⟨rfl, rfl⟩
  refine WR_val rfl (rn_assign) ?_
  refine WR_nil ?_
  refine thenN ?_
  refine W_seq ?_
  refine W_region ?_
  refine WR_val rfl (rn_move) ?_
  refine WR_val rfl (rn_neq rfl rfl) ?_
  refine WR_nil ?_
  refine thenN ?_
  refine W_fp rfl ((by simp)) ?_
  refine W_skip ?_
  refine thenN ?_
  refine W_seq ?_
  refine W_region ?_
  refine WR_val rfl (rn_move) ?_
  refine WR_ent rfl (rn_call (by kernel_rfl) rfl) (hby) ?_
  rintro _ w18 ⟨gb, ob, cb, rfl, hgb, hbs, hb18⟩
  replace hG := hG.new hb18
  replace hLL := hLL.new hb18
  refine WR_val rfl (rn_move) ?_
  refine WR_val rfl (rn_extract rfl rfl) ?_
  refine WR_val rfl (rn_extract rfl rfl) ?_
  refine WR_val rfl (rn_assign) ?_
  refine WR_val rfl (rn_assign) ?_
  refine WR_nil ?_
  refine thenN ?_
  refine W_seq ?_
  refine W_block ?_
  refine W_seq ?_
  refine W_region ?_
  refine WR_val rfl (rn_move) ?_
  refine WR_val rfl (rn_neq rfl rfl) ?_
  refine WR_val rfl (rn_assign) ?_
  refine WR_nil ?_
  refine thenN ?_
  refine W_fp rfl ((by simp)) ?_
  refine W_seq ?_
  refine W_region ?_
  refine WR_val rfl (rn_move) ?_
  refine WR_val rfl (rn_lenSl (e := 90) (sz := 513) (by kernel_rfl) rfl rfl) ?_
  refine WR_ent rfl (rn_call (by kernel_rfl) rfl) (need10 n w18) ?_
  rintro _ _ ⟨rfl, rfl⟩
  refine WR_val rfl (rn_move) ?_
  refine WR_ent rfl (rn_call (by kernel_rfl) rfl) (room19 hG hat hszm) ?_
  rintro _ w30 ⟨rfl, hb30⟩
  replace hG := hG.new hb30
  replace hLL := hLL.new hb30
  replace hbs := hbs.new hb30
  rw [hnw]
  refine WR_val rfl (rn_gtr rfl rfl) ?_
  refine WR_val rfl (rn_assign) ?_
  refine WR_nil ?_
  refine thenN ?_
  refine W_ifp rfl (fun hgt => ?_) (fun hgt => ?_)
  ·
    refine W_seq ?_
    refine W_region ?_
    refine WR_val rfl (rn_assign) ?_
    refine WR_nil ?_
    refine thenN ?_
    refine W_ret ?_
    refine blockR ?_
    refine thenR ?_
    refine ret_ret [_] ⟨rfl, trivial⟩ ?_
    have hlt : G.size < G.at_ + N := by omega
    rw [if_pos hlt]
    exact ⟨rfl, hG, hLL⟩
  ·
    have hlt : ¬ G.size < G.at_ + N := by omega
    rw [if_neg hlt]
    refine W_skip ?_
    refine blockN ?_
    refine thenN ?_
    refine W_seq ?_
    refine W_draw' [] (by kernel_rfl) ?_
    intro w901 hb901 hS901
    replace hG := hG.new hb901
    replace hLL := hLL.new hb901
    replace hbs := hbs.new hb901
    have hG_d901 := hG
    have hLL_d901 := hLL
    have hbs_d901 := hbs
    refine WA_take 0 (by kernel_rfl) rfl (fun _ _ => rn_move) ?_
    refine WA_take 1 (by kernel_rfl) rfl (fun _ _ => rn_nilCheckP rfl) ?_
    refine WA_take 2 (by kernel_rfl) rfl (fun _ _ => rn_fieldAddr (off := 0) (by kernel_rfl) rfl) ?_
    refine WA_take 3 (by kernel_rfl) rfl (fun _ _ => rn_fieldAddr (off := 0) (by kernel_rfl) rfl) ?_
    refine WA_take 4 (by kernel_rfl) rfl (fun w' hS' => rn_load rfl ((Ld.row1 (hG_d901.kpd hS' (by first | (simp; done) | (simp; omega) | (simp [*]; done) | exact notLL (Or.inl (by omega)) | exact notLL (Or.inr (by simp)) | exact fun g hm => Nat.le_trans (by omega) (inLL hm).1 | (intro b o e; cases e; exact notLL (Or.inl (by omega))) | (intro b hm; have := (hu.lt b (Option.mem_toList.1 hm)).1; omega) | (intro b o e; cases e; intro hm; have := (hu.lt _ (Option.mem_toList.1 hm)).1; omega))).rowx (by kernel_rfl) rfl))) ?_
    refine WA_take 5 (by kernel_rfl) rfl (fun _ _ => rn_move) ?_
    refine WA_take 6 (by kernel_rfl) rfl (fun _ _ => rn_nilCheckP rfl) ?_
    refine WA_take 7 (by kernel_rfl) rfl (fun _ _ => rn_fieldAddr (off := 4) (by kernel_rfl) rfl) ?_
    refine WA_take 8 (by kernel_rfl) rfl (fun w' hS' => rn_load rfl ((Ld.row1 (hG_d901.kpd hS' (by first | (simp; done) | (simp; omega) | (simp [*]; done) | exact notLL (Or.inl (by omega)) | exact notLL (Or.inr (by simp)) | exact fun g hm => Nat.le_trans (by omega) (inLL hm).1 | (intro b o e; cases e; exact notLL (Or.inl (by omega))) | (intro b hm; have := (hu.lt b (Option.mem_toList.1 hm)).1; omega) | (intro b o e; cases e; intro hm; have := (hu.lt _ (Option.mem_toList.1 hm)).1; omega))).rowx (by kernel_rfl) rfl))) ?_
    refine WA_take 9 (by kernel_rfl) rfl (fun _ _ => rn_pair (k0 := .u64) (k1 := .i64) (by kernel_rfl) (by kernel_rfl) rfl rfl) ?_
    refine WA_take 10 (by kernel_rfl) rfl (fun _ _ => rn_move) ?_
    refine WA_one 11 (by kernel_rfl) ?_
    have hsp := split_yes G.count G.num hmt (recB R) _ (516 * n) cb w901 hbs (by omega)
    rw [hNe] at hsp
    refine WO_ent rfl rfl (rn_call (by kernel_rfl) rfl) (hsp) ?_
    rintro _ w44 ⟨gq, rfl, hgq, hrq, hb44⟩
    replace hG := hG.newc hb44 hgq hrq.lt
    have hS902 := hS901.add0 hb44
    refine ⟨hS902, ?_⟩
    replace hLL := hLL.new hb44
    refine WA_take 12 (by kernel_rfl) rfl (fun _ _ => rn_move) ?_
    refine WA_take 13 (by kernel_rfl) rfl (fun _ _ => rn_extract rfl rfl) ?_
    refine WA_take 14 (by kernel_rfl) rfl (fun _ _ => rn_extract rfl rfl) ?_
    refine WA_take 15 (by kernel_rfl) rfl (fun _ _ => rn_assign) ?_
    refine WA_take 16 (by kernel_rfl) rfl (fun _ _ => rn_assign) ?_
    refine WA_done (by kernel_rfl) ?_
    refine thenN ?_
    refine W_seq ?_
    refine W_seq ?_
    refine W_region ?_
    refine WR_val rfl (rn_move) ?_
    refine WR_val rfl (rn_move) ?_
    have hrs := hrq.slA (m := N) (sz := 128) (by rw [bv_length, hrl]; omega) (by unfold maxLen; omega)
    rw [← hfl] at hrs
    have hwr := write47 hG RW hso gq N N (List.mem_cons_self ..) hlen hrs (by omega) hsh (by omega)
    rw [hpw] at hwr
    clear hrl hNe hnw
    refine WR_ent rfl (rn_call (by kernel_rfl) rfl) (hwr) ?_
    rintro _ w49 ⟨rfl, hG, hb49⟩
    replace hLL := hLL.ll hb49 (by first | (intro b hb; exact hb) | (intro b hb; simp [hb]; done) | simp)
    refine WR_val rfl (rn_assign) ?_
    refine WR_nil ?_
    refine thenN ?_
    refine W_seq ?_
    refine W_region ?_
    obtain ⟨hD, hx, hge, hni⟩ := hG
    obtain ⟨c, si, sz, nu, at_, de⟩ := G
    dsimp only [lgV] at hx hd hnum hat hszm hfit
    subst hd
    replace hD := hD.weak (L2 := x :: L) (fun b hb => (List.mem_cons.1 hb).elim (fun e => e ▸ List.mem_cons_self ..) fun hm => List.mem_cons_of_mem _ (List.mem_cons_of_mem _ hm))
    replace hni : x ∉ L := fun hm => hni (List.mem_cons_of_mem _ hm)
    refine WR_val rfl (rn_move) ?_
    refine WR_val rfl (rn_neq rfl rfl) ?_
    refine WR_nil ?_
    refine thenN ?_
    refine W_ifp rfl (fun hne => ?_) (fun hne => ?_)
    ·
      refine W_seq ?_
      refine W_region ?_
      refine WR_val rfl (rn_move) ?_
      refine WR_val rfl (rn_nilCheckP rfl) ?_
      refine WR_val rfl (rn_fieldAddr (off := 6) (by kernel_rfl) rfl) ?_
      refine WR_sk rfl (sk_store1 rfl rfl rfl rfl hx (by kernel_rfl) (by first | (simp only [List.length_replicate]; omega) | (simp only [iv_length]; omega) | (simp only [bv_length, List.length_set]; omega) | simp) (fun w903 hx ho903 => ?_))
      replace hLL := hLL.only ho903 (by first | omega | (right; exact ⟨by omega, by assumption⟩))
      replace hD := hD.only ho903 (by first | (right; simp; done) | (left; omega))
      refine WR_nil ?_
      refine thenN ?_
      refine W_seq ?_
      refine W_region ?_
      refine WR_val rfl (rn_move) ?_
      refine WR_val rfl (rn_assign) ?_
      refine WR_nil ?_
      refine thenN ?_
      refine W_ret ?_
      refine thenR ?_
      refine ret_ret [_] ⟨rfl, trivial⟩ ?_
      have hf : ok = false := by cases ok with | false => rfl | true => simp at hne
      subst hf
      exact ⟨rfl, ⟨hD, hx, hge, hni⟩, hLL⟩
    ·
      have hf : ok = true := by cases ok with | true => rfl | false => simp at hne
      subst hf
      refine W_skip ?_
      refine thenN ?_
      refine W_seq ?_
      refine W_region ?_
      refine WR_val rfl (rn_move) ?_
      refine WR_val rfl (rn_nilCheckP rfl) ?_
      refine WR_val rfl (rn_fieldAddr (off := 5) (by kernel_rfl) rfl) ?_
      refine WR_val rfl (rn_load rfl (Ld.row1 hx (by kernel_rfl) rfl)) ?_
      refine WR_val rfl (rn_move) ?_
      refine WR_val rfl (rn_lenSl (e := 63) (sz := 128) (by kernel_rfl) rfl rfl) ?_
      refine WR_val rfl (rn_add rfl rfl (Coup.w64 (by omega))) ?_
      refine WR_val rfl (rn_nilCheckP rfl) ?_
      refine WR_val rfl (rn_fieldAddr (off := 5) (by kernel_rfl) rfl) ?_
      refine WR_sk rfl (sk_store1 rfl rfl rfl rfl hx (by kernel_rfl) (by first | (simp only [List.length_replicate]; omega) | (simp only [iv_length]; omega) | (simp only [bv_length, List.length_set]; omega) | simp) (fun w904 hx ho904 => ?_))
      replace hLL := hLL.only ho904 (by first | omega | (right; exact ⟨by omega, by assumption⟩))
      replace hD := hD.only ho904 (by first | (right; simp; done) | (left; omega))
      refine WR_nil ?_
      refine thenN ?_
      refine W_seq ?_
      refine W_region ?_
      have hx2 : row w904 x [.int .u64 (c : Int), .int .u64 (si : Int), .pointer (some ⟨g, 0, none⟩), .int .i64 (sz : Int), .int .i64 (nu : Int), .int .i64 ((at_ : Int) + (N : Int)), .bool false] 44 := hx
      replace hx := hx2
      clear hx2
      refine WR_val rfl (rn_move) ?_
      refine WR_val rfl (rn_nilCheckP rfl) ?_
      refine WR_val rfl (rn_fieldAddr (off := 4) (by kernel_rfl) rfl) ?_
      refine WR_val rfl (rn_load rfl (Ld.row1 hx (by kernel_rfl) rfl)) ?_
      refine WR_val rfl (rn_add rfl rfl (Coup.w64 (by omega))) ?_
      refine WR_val rfl (rn_nilCheckP rfl) ?_
      refine WR_val rfl (rn_fieldAddr (off := 4) (by kernel_rfl) rfl) ?_
      refine WR_sk rfl (sk_store1 rfl rfl rfl rfl hx (by kernel_rfl) (by first | (simp only [List.length_replicate]; omega) | (simp only [iv_length]; omega) | (simp only [bv_length, List.length_set]; omega) | simp) (fun w905 hx ho905 => ?_))
      replace hLL := hLL.only ho905 (by first | omega | (right; exact ⟨by omega, by assumption⟩))
      replace hD := hD.only ho905 (by first | (right; simp; done) | (left; omega))
      refine WR_nil ?_
      refine thenN ?_
      refine W_seq ?_
      refine W_region ?_
      refine WR_val rfl (rn_assign) ?_
      refine WR_nil ?_
      refine thenN ?_
      refine W_ret ?_
      refine ret_ret [_] ⟨rfl, trivial⟩ ?_
      exact ⟨rfl, ⟨hD, hx, hge, hni⟩, hLL⟩
theorem commit17 (h : LgAt g x Y lo L D G w) (hok : LgOk D G) (hsh : shortD D 80000) (R : Rec) (hR : chsOk R) (p : Option Addr) (n cp : Nat) (hs : SlAt w p n 513 (chsV R)) (hn : R.length = n) (hn2 : n ≤ 1000000) :
    Calls Try.prog 17 [.pointer (some ⟨x, 0, none⟩), .slice p n cp].toArray w (Ret fun v w' => v = .int .i64 (commitR D G R).1 ∧ LgAt g x Y lo L (commitR D G R).2.1 (commitR D G R).2.2 w' ∧ LoL lo L w w') := by
  cases hd : G.dead with
  | true => exact commit_dead h hd R p n cp
  | false =>
    cases hm : mayR R with
    | true => exact commit_yes h hok hsh hd R hR hm p n cp hs hn hn2
    | false => exact commit_no h hd R hR hm p n cp hs hn hn2
end
end Go.Proofs.Ytkkgahgpemepeaa

/- Loops over functions whose values are not known ahead, but what they are. -/
namespace Coup
open Go Go.RowKit

/-- A function hands over m values, one by one, till it is told to stop: what V says of each. -/
def SeqU (P : Program) (gf : Nat) (lb : List Value) (m : Nat) (V : Nat → List Value → World → Prop) (ks : List Nat) (w : World) : Prop :=
  ∀ (l : Nat) (J : Nat → World → Prop) (Jx : World → Prop) (W : World), Below w.heap.size w W →
    (∀ k W W', J k W → Below W.heap.size W W' → J k W') → (∀ W W', Jx W → Below W.heap.size W W' → Jx W') →
    (∀ k v W1, k < m → V k v W1 → J k W1 → YieldT P l v W1 fun e W' => (e = .returned (.bool true) ∧ J (k + 1) W' ∧ (∀ b, b ∈ ks → W'.heap[b]? = W1.heap[b]?) ∧ W1.heap.size ≤ W'.heap.size) ∨ (e = .returned (.bool false) ∧ Jx W')) →
    J 0 W → Calls P gf (.func (.yield l) #[] #[] :: lb).toArray W (Ret fun _ W' => J m W' ∨ Jx W')
section
variable {md : Option Nat → Prop} {P : Program} {n : Nat} {Q : Post} {ρ : Env} {w w0 : World}
theorem W_rangeFuncU {g : Operand} {ps : List Nat} {assign body : Code} {gf : Nat} {lb : List Value} {m : Nat} {V : Nat → List Value → World → Prop} {ks : List Nat} (hmd : ∀ rd, md rd → rd = none)
    (hg : ev ρ g = .func (.func gf) #[] lb.toArray) (hcan : canCall P gf = true) (hseq : SeqU P gf lb m V ks w0) (hb0 : Below w0.heap.size w0 w) (hps : ∀ k v W, V k v W → v.length = ps.length) (hpn : ps.all (Nat.blt · n) = true) (hnd : ps.Nodup)
    (hks : ∀ b, b ∈ ks → b < w.heap.size)
    (I : Nat → World → Prop) (Ix : Code → World → Prop) (hI : ∀ k W W', I k W → Soft w.heap.size W W' → I k W') (hIx : ∀ c W W', Ix c W → Soft w.heap.size W W' → Ix c W') (h0 : I 0 w)
    (round : ∀ l k v W1, k < m → V k v W1 → I k W1 → w.heap.size ≤ W1.heap.size → W (fun rd => rd = some l) P n assign
      (fun e ρ' W' => e = .normal ∧ Below W1.heap.size W1 W' ∧ ∀ W2, Soft w.heap.size W' W2 → W (fun rd => rd = some l) P n body (roundQ w.heap.size ks I Ix k W2) ρ' W2) (setP ρ.f ps v) W1)
    (hdone : ∀ D W, w.heap.size ≤ D → I m W → W.heap[D]? = some (.deferred (some [])) → Q .normal ⟨ρ.f, D :: ρ.ms⟩ W)
    (hstop : ∀ D c W', w.heap.size ≤ D → Ix c W' → W'.heap[D]? = some (.deferred (some [])) → codeOk n c = true ∧ W md P n c Q ⟨ρ.f, D :: ρ.ms⟩ W') :
    W md P n (.rangeFunc g ps.toArray assign body) Q ρ w := by
  intro hc rd a hrd ha
  obtain rfl := hmd rd hrd
  simp only [codeOk, Bool.and_eq_true] at hc
  have hpn' : ∀ p, p ∈ ps → p < n := fun p hp => by have := List.all_eq_true.1 hpn p hp; simpa using this
  refine wpIn_rangeFunc ?_
  intro fn hfn
  obtain ⟨rec, hrec⟩ : ∃ rec : LoopState → Option Code → Loop, rec = fun st pe => { state := st, pending := pe, fn, tmps := a.tmps, params := ps.toArray, assign, body, defers := w.heap.size } := ⟨_, rfl⟩
  obtain ⟨W1, hW1⟩ : ∃ W1, (w.alloc (.deferred (some []))).alloc (.loop (rec .ready none)) = W1 := ⟨_, rfl⟩
  have hs1 : W1.heap.size = w.heap.size + 2 := by rw [← hW1]; simp
  have hL1 : W1.heap[w.heap.size + 1]? = some (.loop (rec .ready none)) := by
    rw [← hW1]; have := World.alloc_heap_new (w.alloc (.deferred (some []))) (.loop (rec .ready none)); rwa [World.size_alloc] at this
  have hK1 : W1.heap[w.heap.size]? = some (.deferred (some [])) := by
    rw [← hW1]; exact (Below.heap_alloc _ _ _ (by simp)).trans (World.alloc_heap_new w _)
  have hbw : Below w.heap.size w W1 := by rw [← hW1]; exact ((Below.refl _ w).alloc (Nat.le_refl _) _).alloc (by simp) _
  have hI1 : I 0 W1 := hI 0 w W1 h0 (Soft.of_below hbw)
  have hb1 : Below w0.heap.size w0 W1 := hb0.acc hbw
  have hro : (fr none).round = none := rfl
  obtain ⟨lw, hlw⟩ : ∃ lw, lw = w.heap.size + 1 := ⟨_, rfl⟩
  have hcall : (callFunc gf (.func (.yield lw) #[] #[] :: lb).toArray).run P W1 = .ok (.enter gf (.func (.yield lw) #[] #[] :: lb).toArray) W1 := by
    unfold canCall at hcan
    cases hfn : P.funcs[gf]? with
    | none => simp [hfn] at hcan
    | some f =>
      rw [hfn] at hcan
      simp only [Bool.and_eq_true, Bool.not_eq_true'] at hcan
      cases hb : f.body with
      | none => simp [hb] at hcan
      | some c =>
        have hn : ¬ f.name = "runtime.NumGoroutine" := by simpa using hcan.1
        simp [callFunc, program, Sem.run, hfn, hn, hb, Result.andThen]
  have hae : a.eval g = .func (.func gf) #[] lb.toArray := by rw [ha.ev]; exact hg
  refine ⟨lw, [mkD w.heap.size], W1, { target := .fn (.func gf) lb.toArray, args := #[.func (.yield lw) #[] #[]] }, W1, gf, (.func (.yield lw) #[] #[] :: lb).toArray, W1, ?_, ?_, fun f' _ => fr_fn none f', ?_, fun hdp => by (rw [fr_depth] at hdp; cases hdp), ?_⟩
  · rw [hro, hlw, ← hW1, hrec]; exact run_enterLoop_outer _ _ _ _ _
  · simp only [resolve, rangeCall, hae]
    simp [Deferred.ofValue, Act.eval]
  · have e : #[Value.func (.yield lw) #[] #[]] ++ lb.toArray = (.func (.yield lw) #[] #[] :: lb).toArray := by simp
    simp only [invoke, e]
    exact hcall
  · refine fr_calls ((hseq lw (fun k W => I k W ∧ W.heap[w.heap.size + 1]? = some (.loop (rec .ready none)) ∧ W.heap[w.heap.size]? = some (.deferred (some [])))
      (fun W => ∃ c, Ix c W ∧ W.heap[w.heap.size + 1]? = some (.loop (rec .done (some c))) ∧ W.heap[w.heap.size]? = some (.deferred (some []))) W1 hb1 ?_ ?_ ?_ ⟨hI1, hL1, hK1⟩).mono ?_)
    · rintro k A B ⟨h1, h2, h3⟩ hAB
      exact ⟨hI k A B h1 (Soft.of_below hAB), by rw [hAB.block _ (Array.getElem?_eq_some_iff.1 h2).1]; exact h2, by rw [hAB.block _ (Array.getElem?_eq_some_iff.1 h3).1]; exact h3⟩
    · rintro A B ⟨c, h1, h2, h3⟩ hAB
      exact ⟨c, hIx c A B h1 (Soft.of_below hAB), by rw [hAB.block _ (Array.getElem?_eq_some_iff.1 h2).1]; exact h2, by rw [hAB.block _ (Array.getElem?_eq_some_iff.1 h3).1]; exact h3⟩
    · rintro k v W hkm hv ⟨hi, hl, hk⟩
      have hlt : w.heap.size + 1 < W.heap.size := (Array.getElem?_eq_some_iff.1 hl).1
      have hvl := hps k v W hv
      have hy := run_yield (P := P) (args := v.toArray) hl (by rw [hrec]; simpa using hvl)
      rw [hrec] at hy
      refine ⟨fn, _, assign, body, by rw [hlw]; exact hy, ?_⟩
      clear hy
      refine roundIn_of_wpIn (F := Fence.wide) (n := 0) trivial ?_
      have hag : Ag n { tmps := (ps.toArray.zip v.toArray).foldl (fun t (p, u) => t.setIfInBounds p u) a.tmps, defers := [] } (setP ρ.f ps v) := by
        have := setP_ag ha ps v a.tmps ha.s ha.t hpn' hnd
        rw [← Array.foldl_toList, Array.toList_zip]
        exact this
      have hA := round lw k v W hkm hv hi (by omega) hc.1 (some lw) _ rfl hag
      have hA' : assign.wpIn (Fence.wide.inRound lw) 0 P _ _ W := fun b k' cs h1 h2 h3 => hA b k' cs h1 h2 (room_wide _)
      refine wpIn_mono hA' ?_
      rintro e a' Wa ⟨ρ', h1, rfl, hbel, hbody⟩
      show ∃ w2, _
      have hl2 : Wa.heap[w.heap.size + 1]? = some (.loop (rec .ready none)) := by rw [hbel.block _ hlt]; exact hl
      have hk2 : Wa.heap[w.heap.size]? = some (.deferred (some [])) := by rw [hbel.block _ (by omega)]; exact hk
      have hlt2 := (Array.getElem?_eq_some_iff.1 hl2).1
      refine ⟨_, by rw [hlw]; exact run_beginRound hl2 (by rw [hrec]), ?_⟩
      obtain ⟨W2, hW2⟩ : ∃ W2, W2 = Wa.putObj (w.heap.size + 1) (.loop { rec .ready none with state := .busy }) := ⟨_, rfl⟩
      have hl3 : W2.heap[w.heap.size + 1]? = some (.loop { rec .ready none with state := .busy }) := by rw [hW2]; exact World.putObj_heap_same hlt2
      have hk3 : W2.heap[w.heap.size]? = some (.deferred (some [])) := by rw [hW2]; exact (World.putObj_heap_other (by omega)).trans hk2
      have hsf : Soft w.heap.size Wa W2 := by rw [hW2]; exact Soft.put _ hl2 (by omega) rfl
      rw [← hW2]
      have hB := hbody W2 hsf hc.2 (some lw) a' rfl h1
      have hB' : body.wpIn (Fence.wide.inRound lw) 0 P _ a' W2 := fun b k' cs h1 h2 h3 => hB b k' cs h1 h2 (room_wide _)
      refine wpIn_mono hB' ?_
      have fin : ∀ (jump : Option Code) (W3 : World), KeepsFrom w.heap.size W2 W3 →
          (Instr.endRound lw jump).run P W3 = .ok (.bool jump.isNone) (W3.putObj (w.heap.size + 1) (.loop (rec (if jump.isNone then .ready else .done) jump))) ∧
          Soft w.heap.size W3 (W3.putObj (w.heap.size + 1) (.loop (rec (if jump.isNone then .ready else .done) jump))) ∧
          (W3.putObj (w.heap.size + 1) (.loop (rec (if jump.isNone then .ready else .done) jump))).heap[w.heap.size + 1]? = some (.loop (rec (if jump.isNone then .ready else .done) jump)) ∧
          (W3.putObj (w.heap.size + 1) (.loop (rec (if jump.isNone then .ready else .done) jump))).heap[w.heap.size]? = some (.deferred (some [])) := fun jump W3 hk3' => by
        have hl4 := hk3'.same _ _ (by omega) hl3 rfl
        have := run_endRound (P := P) jump hl4
        rw [hrec] at this ⊢
        refine ⟨by rw [hlw]; exact this, Soft.put _ hl4 (by omega) rfl, World.putObj_heap_same (Array.getElem?_eq_some_iff.1 hl4).1, (World.putObj_heap_other (by omega)).trans (hk3'.same _ _ (Nat.le_refl _) hk3 rfl)⟩
      rintro e a3 W3 ⟨ρ3, _, hp⟩
      have hkw : ∀ b, b ∈ ks → W2.heap[b]? = W.heap[b]? := fun b hb => by
        have := hks b hb
        rw [hW2, World.putObj_heap_other (by omega), hbel.block b (by omega)]
      have hsz2 : W.heap.size ≤ W2.heap.size := by rw [hW2]; simpa using hbel.size
      cases e with
      | normal =>
        obtain ⟨hp1, hp2, hp3⟩ := hp
        obtain ⟨hr, hs, hl5, hk5⟩ := fin none W3 hp1
        refine ⟨_, _, hr, .inl ⟨rfl, ⟨hI _ _ _ hp3 hs, hl5, hk5⟩, fun b hb => ?_, ?_⟩⟩
        · have := hks b hb
          rw [World.putObj_heap_other (by omega), hp2 b hb, hkw b hb]
        · have := hp1.size; simp; omega
      | ret =>
        obtain ⟨hp1, hp2⟩ := hp
        obtain ⟨hr, hs, hl5, hk5⟩ := fin (some .ret) W3 hp1
        exact ⟨_, _, hr, .inr ⟨rfl, .ret, hIx _ _ _ hp2 hs, hl5, hk5⟩⟩
      | exit id =>
        obtain ⟨hp1, hp2⟩ := hp
        obtain ⟨hr, hs, hl5, hk5⟩ := fin (some (.exit id)) W3 hp1
        exact ⟨_, _, hr, .inr ⟨rfl, .exit id, hIx _ _ _ hp2 hs, hl5, hk5⟩⟩
      | goto t => exact hp.elim
      | panic ch => exact hp.elim
      | outgrown => exact hp.elim
    · rintro e W2 ⟨v, rfl, (⟨hi, hl, hk⟩ | ⟨c, hi, hl, hk⟩)⟩
      · refine ⟨none, _, by have := run_endLoop (P := P) hl (by rw [hrec]; simp); rw [hrec] at this; rw [hlw]; exact this, ?_⟩
        refine ⟨⟨ρ.f, w.heap.size :: ρ.ms⟩, ⟨by simp [ha.d], ha.s, ha.t⟩, hdone w.heap.size _ (Nat.le_refl _) (hI _ _ _ hi (Soft.put _ hl (by omega) rfl)) ((World.putObj_heap_other (by omega)).trans hk)⟩
      · refine ⟨some c, _, by have := run_endLoop (P := P) hl (by rw [hrec]; simp); rw [hrec] at this; rw [hlw]; exact this, ?_⟩
        obtain ⟨h1, h2⟩ := hstop w.heap.size c _ (Nat.le_refl _) (hIx _ _ _ hi (Soft.put _ hl (by omega) rfl)) ((World.putObj_heap_other (by omega)).trans hk)
        exact h2 h1 none _ hrd ⟨by simp [ha.d], ha.s, ha.t⟩
end
end Coup

/- The rows that sectors begin with, one by one. -/
namespace Go.Proofs.Ytkkgahgpemepeaa
open Go Go.RowKit Coup

structure RowD' where
  c : Nat
  nn : Nat
  b : List UInt8
/-- The rows that n sectors begin with, one behind the other. -/
def rowsL : Nat → List UInt8 → Nat → List RowD'
  | 0, _, _ => []
  | f + 1, l, n => if joinIs l n then ⟨hCount (halfAt l 0), hNum (halfAt l 0), joinB l⟩ :: rowsL f (l.drop (128 * needN (joinB l).length)) (n - needN (joinB l).length) else []
theorem joinNotW (p : Option Addr) (n cp : Nat) (l : List UInt8) (w : World) (h : SlAt w p n 128 (bv l)) (hn : n ≤ 1000000) (hj : joinIs l n = false) : Calls Try.prog 82 [.slice p n cp].toArray w (Ret fun v w' => v = noneV ∧ Below w.heap.size w w') := by
  have hJ : Calls Try.prog 82 [.slice p n cp].toArray w (Ret fun v w' => JR l n w v w') := by
    by_cases h0 : 0 < n
    · cases hm : mayT (hCount (halfAt l 0)) (hNum (halfAt l 0)) with
      | true => exact joinT p n cp l w h hn h0 hm
      | false => exact joinF p n cp l w h hn h0 hm
    · obtain rfl : n = 0 := by omega
      exact join0 p cp l w
  exact hJ.to fun v w' ⟨h1, h2⟩ => by
    rcases h2 with ⟨_, h2⟩ | ⟨h3, _⟩
    · exact ⟨h2, h1⟩
    · rw [hj] at h3; cases h3
theorem join_facts {l : List UInt8} {n : Nat} (hj : joinIs l n = true) : 0 < n ∧ mayT (hCount (halfAt l 0)) (hNum (halfAt l 0)) = true ∧ (l.length = n * 128 → needN (joinB l).length ≤ n ∧ 1 ≤ needN (joinB l).length) := by
  rw [joinIs, Bool.and_eq_true, Bool.and_eq_true] at hj
  obtain ⟨⟨h1, h2⟩, h3⟩ := hj
  have h0 := of_decide_eq_true h1
  rw [joinMay, Bool.and_eq_true, Bool.and_eq_true, Bool.and_eq_true] at h2
  obtain ⟨⟨⟨h4, h5⟩, h6⟩, h7⟩ := h2
  have h7 := of_decide_eq_true h7
  rw [joinOk, Bool.and_eq_true, Bool.and_eq_true, Bool.and_eq_true] at h3
  obtain ⟨⟨⟨_, h8⟩, h9⟩, _⟩ := h3
  have h9 := of_decide_eq_true h9
  refine ⟨h0, h4, fun hl => ?_⟩
  have hb : (joinB l).length ≤ joinK l (hMany (halfAt l 0)) := by rw [joinB, List.length_take]; omega
  have hk : manyN (joinB l).length ≤ manyN (joinK l (hMany (halfAt l 0))) := by unfold manyN; omega
  rw [h9] at hk
  have hp : 1 ≤ manyN (joinB l).length := by unfold manyN; omega
  unfold needN
  omega
theorem joinYesW (p : Option Addr) (n cp : Nat) (l : List UInt8) (w : World) (h : SlAt w p n 128 (bv l)) (hn : n ≤ 1000000) (hj : joinIs l n = true) : Calls Try.prog 82 [.slice p n cp].toArray w
    (Ret fun v w' => ∃ sp, v = .tuple #[.agg #[.int .u64 (hCount (halfAt l 0)), .int .i64 (hNum (halfAt l 0))], .slice sp (joinB l).length (joinB l).length, .int .i64 (needN (joinB l).length : Nat), .int .i64 0] ∧ SlAt w' sp (joinB l).length 1 (bv (joinB l)) ∧ Below w.heap.size w w') := by
  obtain ⟨h0, hm, _⟩ := join_facts hj
  exact (joinT p n cp l w h hn h0 hm).to fun v w' ⟨h1, h2⟩ => by
    rcases h2 with ⟨h3, _⟩ | ⟨_, sp, h3, h4⟩
    · rw [hj] at h3; cases h3
    · exact ⟨sp, h3, h4, h1⟩
theorem sl_dropZ {w : World} {q : Option Addr} {m c sz j : Nat} {cs : List Value} (h : SlAt w q m sz cs) (hj : j ≤ m) (hc : m ≤ c) : SlAt w (if c = j then q else q.map (·.add (j * sz))) (m - j) sz (cs.drop (j * sz)) := by
  refine ⟨by rw [List.length_drop, h.len, Nat.sub_mul], Nat.le_trans (Nat.sub_le _ _) h.max, fun h0 => ?_⟩
  have hs : 0 < (m - j) * sz := h0
  have hmj : 0 < m - j := Nat.pos_of_mul_pos_right hs
  have hmul : (m - j) * sz + j * sz = m * sz := by rw [← Nat.add_mul]; congr 1; omega
  obtain ⟨b, off, hp, hlt, hcell⟩ := h.at_ (by omega)
  refine ⟨b, off + j * sz, by rw [if_neg (by omega), hp, Option.map_some, Addr.add_lit], hlt, fun i hi => ?_⟩
  rw [List.getElem?_drop, ← hcell (j * sz + i) (by omega)]
  congr 2; omega
/-- What is handed over: the k-th row. -/
def RowV (R : List RowD') (k : Nat) (v : List Value) (W : World) : Prop := ∃ r, R[k]? = some r ∧ ∃ sp, v = [.agg #[.int .u64 (r.c : Int), .int .i64 (r.nn : Int)], .slice sp r.b.length r.b.length] ∧ SlAt W sp r.b.length 1 (bv r.b)
set_option maxRecDepth 20000 in
set_option maxHeartbeats 1000000 in
theorem rowsSeq (l : List UInt8) (g1 ga oa n c : Nat) (w : World) (hn : n ≤ 1000000) (h0n : 0 < n) (hcn : n ≤ c) (r1 : row w g1 [.slice (some ⟨ga, oa, none⟩) n c] 54)
    (hs : SlAt w (some ⟨ga, oa, none⟩) n 128 (bv l)) : SeqU Try.prog 81 [.pointer (some ⟨g1, 0, none⟩)] (rowsL n l n).length (RowV (rowsL n l n)) [g1, ga] w := by
  intro ly J Jx W hbW hJ hJx hy h0
  have r1W := r1.new hbW
  have hsW := hs.new hbW
  have hgaW := hsW.some (by omega)
  obtain ⟨_, _, heq, hgaW⟩ := hgaW
  cases heq
  have hB := Below.refl W.heap.size W
  obtain ⟨R, hR⟩ : ∃ R, rowsL n l n = R := ⟨_, rfl⟩
  rw [hR] at hy ⊢
  refine calls_W (fn := Try.f81) (rs := []) (n := 28) Try.func81 rfl rfl Try.ntmps81 (by kernel_rfl) rfl ?_
  refine W_seq ?_
  refine W_region ?_
  refine WR_val rfl (rn_load rfl (Ld.row1 r1W (by kernel_rfl) rfl)) ?_
  refine WR_val rfl (rn_assign) ?_
  refine WR_nil ?_
  refine thenN ?_
  refine W_block ?_
  refine W_loop (α := Nat × Nat × Nat × Option Addr × List UInt8) (0, n, c, some ⟨ga, oa, none⟩, l) (fun k => [(0, .func (.yield ly) #[] #[]), (1, .pointer (some ⟨g1, 0, none⟩)), (3, .slice k.2.2.2.1 k.2.1 k.2.2.1)])
    (fun k w' => k.1 ≤ R.length ∧ k.2.1 ≤ k.2.2.1 ∧ k.2.1 ≤ n ∧ (∃ f, k.2.1 ≤ f ∧ R.drop k.1 = rowsL f k.2.2.2.2 k.2.1) ∧ SlAt W k.2.2.2.1 k.2.1 128 (bv k.2.2.2.2) ∧ (∀ b o, k.2.2.2.1 = some ⟨b, o, none⟩ → 0 < k.2.1 → b = ga) ∧ J k.1 w' ∧ (∀ x, x ∈ [g1, ga] → w'.heap[x]? = W.heap[x]?) ∧ W.heap.size ≤ w'.heap.size) (fun k => k.2.1) ⟨rfl, rfl, rfl, rfl⟩ ⟨Nat.zero_le _, hcn, Nat.le_refl _, ⟨n, Nat.le_refl _, hR.symm⟩, hsW, (fun b o e _ => by cases e; rfl), h0, fun _ _ => rfl, Nat.le_refl _⟩ ?_
  rintro ⟨k, m, cm, q, lr⟩ f wr ⟨hk, hcm, hmn, ⟨fu, hfu, hdr⟩, hsm, hqa, hJk, hkp, hsz⟩
  dsimp only at *
  have hBr := Below.refl wr.heap.size wr
  have hlr : lr.length = m * 128 := by simpa [bv_length] using hsm.len
  have hsr : SlAt wr q m 128 (bv lr) := by
    by_cases h0m : 0 < m
    · obtain ⟨b, o, rfl, _⟩ := hsm.some (by omega)
      obtain rfl := hqa b o rfl h0m
      exact hsm.blk (hkp b (by simp)) hsz
    · exact ⟨hsm.len, hsm.max, fun h => absurd h (by rw [show m = 0 by omega, Nat.zero_mul]; exact Nat.lt_irrefl 0)⟩
  cases hj : joinIs lr m with
  | false =>
    have hkR : k = R.length := by
      have h1 := congrArg List.length hdr
      cases fu with
      | zero => rw [rowsL, List.length_drop, List.length_nil] at h1; omega
      | succ fu => rw [rowsL, hj, if_neg (by simp), List.length_drop, List.length_nil] at h1; omega
    refine W_block ?_
    refine W_seq ?_
    refine W_region ?_
    refine WR_val rfl (rn_move) ?_
    refine WR_ent rfl (rn_call (by kernel_rfl) rfl) (joinNotW q m cm lr wr (hsr.new hBr) (by omega) hj) ?_
    rintro _ w11 ⟨rfl, hb11⟩
    replace hBr := hBr.acc hb11
    refine WR_val rfl (rn_move) ?_
    refine WR_val rfl (rn_extract rfl rfl) ?_
    refine WR_val rfl (rn_extract rfl rfl) ?_
    refine WR_val rfl (rn_extract rfl rfl) ?_
    refine WR_val rfl (rn_extract rfl rfl) ?_
    refine WR_mk rfl (mk_alloc ([Value.int .u64 0, Value.int .i64 0]) (by kernel_rfl) (fun g4 w4 hg4 hr4 hb4 => ?_))
    have ge_hBr_g4 := Nat.le_trans hBr.size hg4
    replace hBr := hBr.acc hb4
    refine WR_sk rfl (sk_storeA 2 (_) rfl rfl hr4 (by kernel_rfl) (by first | assumption | (simp; done) | (simp [bv_length, *]; done)) (by first | assumption | (simp; done) | (simp [bv_length, *]; done) | rfl) (by first | exact bv_one _ | assumption | (simp [Value.oneCell']; done)) (fun w901 hr4 ho901 => ?_))
    replace hBr := ho901.below hBr ge_hBr_g4
    refine WR_val rfl (rn_assign) ?_
    refine WR_val rfl (rn_assign) ?_
    refine WR_val rfl (rn_assign) ?_
    refine WR_nil ?_
    refine thenN ?_
    refine W_seq ?_
    refine W_seq ?_
    refine W_region ?_
    refine WR_val rfl (rn_move) ?_
    refine WR_val rfl (rn_neq rfl rfl) ?_
    refine WR_val rfl (rn_move) ?_
    refine WR_tp 18 rfl ((by decide)) ?_
    refine WR_no rfl rfl ?_
    refine WR_no rfl rfl ?_
    refine WR_no rfl rfl ?_
    refine WR_no rfl rfl ?_
    refine WR_no rfl rfl ?_
    refine WR_val rfl (rn_pick_t rfl) ?_
    refine WR_nil ?_
    refine thenN ?_
    refine W_t rfl ?_
    refine W_ret ?_
    refine thenR ?_
    refine blockR ?_
    refine loopR ?_
    refine blockR ?_
    refine ret_ret [] trivial ?_
    exact Or.inl (hkR ▸ hJ _ _ _ hJk hBr)
  | true =>
    have hjf := join_facts hj
    have hnd := hjf.2.2 hlr
    have hobt : ∃ z, fu = z + 1 := ⟨fu - 1, by omega⟩
    obtain ⟨fu, rfl⟩ := hobt
    rw [rowsL, hj, if_pos rfl] at hdr
    have hkl : k < R.length := by
      have h1 := congrArg List.length hdr
      rw [List.length_drop, List.length_cons] at h1; omega
    have hRk : R[k]? = some ⟨hCount (halfAt lr 0), hNum (halfAt lr 0), joinB lr⟩ := by
      have h1 := congrArg (fun z => z[0]?) hdr
      simpa [List.getElem?_drop] using h1
    have hdr2 : R.drop (k + 1) = rowsL fu (lr.drop (128 * needN (joinB lr).length)) (m - needN (joinB lr).length) := by
      have h1 := congrArg (List.drop 1) hdr
      rw [List.drop_drop] at h1
      exact h1
    have hj2 := joinYesW q m cm lr
    generalize hCount (halfAt lr 0) = C at *
    generalize hNum (halfAt lr 0) = NN at *
    generalize joinB lr = JB at *
    generalize needN JB.length = ND at *
    refine W_block ?_
    refine W_seq ?_
    refine W_region ?_
    refine WR_val rfl (rn_move) ?_
    refine WR_ent rfl (rn_call (by kernel_rfl) rfl) (hj2 wr (hsr.new hBr) (by omega) hj) ?_
    rintro _ w11 ⟨sp, rfl, hsp, hb11⟩
    replace hBr := hBr.acc hb11
    have hBs := Below.refl (w11).heap.size w11
    refine WR_val rfl (rn_move) ?_
    refine WR_val rfl (rn_extract rfl rfl) ?_
    refine WR_val rfl (rn_extract rfl rfl) ?_
    refine WR_val rfl (rn_extract rfl rfl) ?_
    refine WR_val rfl (rn_extract rfl rfl) ?_
    refine WR_mk rfl (mk_alloc ([Value.int .u64 0, Value.int .i64 0]) (by kernel_rfl) (fun g4 w4 hg4 hr4 hb4 => ?_))
    have ge_hBr_g4 := Nat.le_trans hBr.size hg4
    have ge_hBs_g4 := Nat.le_trans hBs.size hg4
    replace hBr := hBr.acc hb4
    replace hBs := hBs.acc hb4
    refine WR_sk rfl (sk_storeA 2 (_) rfl rfl hr4 (by kernel_rfl) (by first | assumption | (simp; done) | (simp [bv_length, *]; done)) (by first | assumption | (simp; done) | (simp [bv_length, *]; done) | rfl) (by first | exact bv_one _ | assumption | (simp [Value.oneCell']; done)) (fun w902 hr4 ho902 => ?_))
    replace hBr := ho902.below hBr ge_hBr_g4
    replace hBs := ho902.below hBs ge_hBs_g4
    refine WR_val rfl (rn_assign) ?_
    refine WR_val rfl (rn_assign) ?_
    refine WR_val rfl (rn_assign) ?_
    refine WR_nil ?_
    refine thenN ?_
    refine W_seq ?_
    refine W_seq ?_
    refine W_region ?_
    refine WR_val rfl (rn_move) ?_
    refine WR_val rfl (rn_neq rfl rfl) ?_
    refine WR_val rfl (rn_move) ?_
    refine WR_fp 18 rfl ((by simp)) ?_
    refine WR_yes rfl ?_
    refine WR_val rfl (rn_move) ?_
    refine WR_yes rfl ?_
    refine WR_val rfl (rn_load rfl (Ld.rowA (k := 2) hr4 (by kernel_rfl) (by kernel_rfl) (by first | (simp; done) | (simp [bv_length, *]; done) | assumption))) ?_
    refine WR_yes rfl ?_
    refine WR_val rfl (rn_move) ?_
    refine WR_yes rfl ?_
    have hYk := hy k _ w902 hkl ⟨_, hRk, sp, rfl, hsp.below hBs (Nat.le_refl _)⟩ (hJ _ _ _ hJk hBr)
    refine WR_yield (vl := [.agg #[.int .u64 (C : Int), .int .i64 (NN : Int)], .slice sp JB.length JB.length]) rfl rfl hYk ?_
    have hdz := sl_dropZ hsm hnd.1 hcm
    have hdl : (lr.drop (128 * ND)).length = (m - ND) * 128 := by rw [List.length_drop, hlr]; omega
    replace hdz : SlAt W (if cm = ND then q else q.map (·.add (ND * 128))) (m - ND) 128 (bv (lr.drop (128 * ND))) := by rw [Nat.mul_comm 128 ND, bv_drop]; exact hdz
    rintro e wy (⟨rfl, hJy, hky, hsy⟩ | ⟨rfl, hJxy⟩)
    · refine ⟨_, rfl, ?_⟩
      refine WR_yes rfl ?_
      refine WR_val rfl (rn_not rfl) ?_
      refine WR_val rfl (rn_pick_f rfl) ?_
      refine WR_nil ?_
      refine thenN ?_
      refine W_f rfl ?_
      refine W_skip ?_
      refine thenN ?_
      refine W_region ?_
      refine WR_val rfl (rn_move) ?_
      refine WR_val rfl (rn_move) ?_
      refine WR_val rfl (rn_sliceSl (e := 63) (sz := 128) ND m cm (by kernel_rfl) rfl ⟨_, _, rfl, rfl⟩ rfl rfl (by simp) (by omega) (by omega) (by omega)) ?_
      refine WR_val rfl (rn_assign) ?_
      refine WR_nil ?_
      refine blockN ?_
      refine loopN ⟨(k + 1, m - ND, cm - ND, if cm = ND then q else q.map (·.add (ND * 128)), lr.drop (128 * ND)), by show m - ND < m; omega, ⟨rfl, rfl, rfl, rfl⟩, by show k + 1 ≤ _; omega, by show m - ND ≤ cm - ND; omega, by show m - ND ≤ n; omega, ⟨fu, by show m - ND ≤ fu; omega, hdr2⟩, hdz, fun b o e h => ?_, hJy, fun x hx => ?_, ?_⟩
      · have hpos : 0 < m - ND := h
        have e : (if cm = ND then q else q.map (·.add (ND * 128))) = some ⟨b, o, none⟩ := e
        rw [if_neg (by omega)] at e
        have hobt := hsm.some (by omega)
        obtain ⟨b2, o2, e2, _⟩ := hobt
        rw [e2, Option.map_some, Addr.add_lit] at e
        cases e
        exact hqa _ _ e2 (by omega)
      · have hxx : x < wr.heap.size := by
          simp only [List.mem_cons, List.not_mem_nil, or_false] at hx
          have h1 := r1W.lt
          rcases hx with rfl | rfl <;> omega
        rw [hky x hx, hBr.block x hxx, hkp x hx]
      · have := hBr.size; omega
    · refine ⟨_, rfl, ?_⟩
      refine WR_yes rfl ?_
      refine WR_val rfl (rn_not rfl) ?_
      refine WR_val rfl (rn_pick_f rfl) ?_
      refine WR_nil ?_
      refine thenN ?_
      refine W_t rfl ?_
      refine W_ret ?_
      refine thenR ?_
      refine blockR ?_
      refine loopR ?_
      refine blockR ?_
      refine ret_ret [] trivial ?_
      exact Or.inr hJxy
set_option maxRecDepth 20000 in
theorem rows73 (l : List UInt8) (ga oa : Nat) (n cp : Nat) (w : World) (h : SlAt w (some ⟨ga, oa, none⟩) n 128 (bv l)) (hn : n ≤ 1000000) (h0n : 0 < n) (hcn : n ≤ cp) :
    Calls Try.prog 73 [.slice (some ⟨ga, oa, none⟩) n cp].toArray w (Ret fun v w' => ∃ g1, v = .func (.func 81) #[] [.pointer (some ⟨g1, 0, none⟩)].toArray ∧ g1 < w'.heap.size ∧ w.heap.size ≤ g1 ∧ Below w.heap.size w w' ∧
      SeqU Try.prog 81 [.pointer (some ⟨g1, 0, none⟩)] (rowsL n l n).length (RowV (rowsL n l n)) [g1, ga] w') := by
  have hB := Below.refl w.heap.size w
  refine calls_W (fn := Try.f73) (rs := [.tmp 2]) (n := 4) Try.func73 rfl rfl Try.ntmps73 (by kernel_rfl) rfl ?_
  refine W_seq ?_
  refine W_region ?_
  refine WR_mk rfl (mk_box ([_]) rfl (fun g1 w1 hg1 hr1 hb1 => ?_))
  have ge_hB_g1 := Nat.le_trans hB.size hg1
  replace hB := hB.acc hb1
  refine WR_val rfl (rn_assign) ?_
  refine WR_nil ?_
  refine thenN ?_
  refine W_seq ?_
  refine W_region ?_
  refine WR_val rfl (rn_makeFunc) ?_
  refine WR_val rfl (rn_assign) ?_
  refine WR_nil ?_
  refine thenN ?_
  refine W_ret ?_
  refine ret_ret [_] ⟨rfl, trivial⟩ ?_
  have hg := hB.size
  exact ⟨_, rfl, hr1.lt, by omega, hB, rowsSeq l _ ga oa n cp _ hn h0n hcn hr1 (h.below hB (Nat.le_refl _))⟩
theorem join_short {l : List UInt8} {n : Nat} (hj : joinIs l n = true) : (joinB l).length ≤ 32768 := by
  rw [joinIs, Bool.and_eq_true, Bool.and_eq_true] at hj
  have h3 := hj.2
  rw [joinOk, Bool.and_eq_true, Bool.and_eq_true, Bool.and_eq_true] at h3
  have h8 := of_decide_eq_true h3.1.1.2
  rw [joinB, List.length_take]; omega
theorem rowsL_short : ∀ (f : Nat) (l : List UInt8) (n : Nat) (r : RowD'), r ∈ rowsL f l n → r.b.length ≤ 32768
  | 0, l, n, r, h => by cases h
  | f + 1, l, n, r, h => by
    rw [rowsL] at h
    split at h
    · rename_i hj
      rcases List.mem_cons.1 h with rfl | h
      · exact join_short hj
      · exact rowsL_short f _ _ r h
    · cases h
theorem rowsL_len : ∀ (f : Nat) (l : List UInt8) (n : Nat), (rowsL f l n).length ≤ f
  | 0, l, n => Nat.le_refl 0
  | f + 1, l, n => by
    rw [rowsL]
    split
    · rw [List.length_cons]; have := rowsL_len f (l.drop (128 * needN (joinB l).length)) (n - needN (joinB l).length); omega
    · simp
end Go.Proofs.Ytkkgahgpemepeaa

/- What the log says, read. -/
namespace Go.Proofs.Ytkkgahgpemepeaa
open Go Go.RowKit Coup

/-- Slices, one for each record, from lo on, none in block o. -/
structure RlsAt (w : World) (lo : Nat) (o : Option Nat) (vs : List Value) (L : List Rec) : Prop where
  len : vs.length = L.length
  at_ : ∀ (i : Nat) l, L[i]? = some l → ∃ b off c, vs[i]? = some (.slice (some ⟨b, off, none⟩) l.length c) ∧ SlAt w (some ⟨b, off, none⟩) l.length 513 (chsV l) ∧ b < w.heap.size ∧ some b ≠ o ∧ l.length ≤ c ∧ lo ≤ b
namespace RlsAt
variable {w w' : World} {lo : Nat} {o : Option Nat} {vs : List Value} {L : List Rec}
theorem nil (w : World) (lo : Nat) (o : Option Nat) : RlsAt w lo o [] [] := ⟨rfl, fun i l h => by simp at h⟩
theorem kp {M : List Nat} (h : RlsAt w lo o vs L) (k : Kp M w w') (hM : ∀ g, g ∈ M → w.heap.size ≤ g ∨ o = some g ∨ g < lo) : RlsAt w' lo o vs L := ⟨h.len, fun i l hl => by
  obtain ⟨b, off, c, h1, h2, h3, h4, h5⟩ := h.at_ i l hl
  refine ⟨b, off, c, h1, h2.kpd k fun b' o' e hm => ?_, Nat.lt_of_lt_of_le h3 k.size, h4, h5⟩
  cases e
  rcases hM b hm with e | e | e
  · omega
  · exact h4 e.symm
  · omega⟩
theorem new (h : RlsAt w lo o vs L) (hb : Below w.heap.size w w') : RlsAt w' lo o vs L := h.kp (M := []) (Kp.of_below hb) (by simp)
theorem only {g : Nat} (h : RlsAt w lo o vs L) (ho : Only g w w') (hg : g < lo) : RlsAt w' lo o vs L := h.kp (Kp.of_only ho) fun b hb => by rw [List.mem_singleton.1 hb]; exact .inr (.inr hg)
theorem soft {B : Nat} (h : RlsAt w lo o vs L) (k : Soft B w w') : RlsAt w' lo o vs L := ⟨h.len, fun i l hl => by
  obtain ⟨b, off, c, h1, h2, h3, h4⟩ := h.at_ i l hl
  exact ⟨b, off, c, h1, h2.soft k, Nat.lt_of_lt_of_le h3 k.size, h4⟩⟩
theorem grow {v v' : Value} (h : RlsAt w lo v.ownBlock vs L) (hg : w.grownBy w' v.ownBlock) (hf : ∀ g, v'.ownBlock = some g → v.ownBlock = some g ∨ w.heap.size ≤ g) : RlsAt w' lo v'.ownBlock vs L := ⟨h.len, fun i l hl => by
  obtain ⟨b, off, c, h1, h2, h3, h4, h5⟩ := h.at_ i l hl
  refine ⟨b, off, c, h1, h2.kpd (Kp.of_grown hg) fun b' o' e hm => ?_, Nat.lt_of_lt_of_le h3 hg.size, fun e => (hf b e.symm).elim (fun e' => h4 e'.symm) (fun e' => by omega), h5⟩
  cases e
  simp only [Option.mem_toList] at hm
  exact h4 hm.symm⟩
theorem snoc {b off c : Nat} {l : Rec} (h : RlsAt w lo o vs L) (h2 : SlAt w (some ⟨b, off, none⟩) l.length 513 (chsV l)) (h3 : b < w.heap.size) (h4 : some b ≠ o) (h5 : l.length ≤ c) (h6 : lo ≤ b) : RlsAt w lo o (vs ++ [.slice (some ⟨b, off, none⟩) l.length c]) (L ++ [l]) :=
  ⟨by simp [h.len], fun i l' hl => by
    by_cases hi : i < L.length
    · rw [List.getElem?_append_left hi] at hl
      obtain ⟨b', off', c', e1, e2, e3, e4, e5⟩ := h.at_ i l' hl
      exact ⟨b', off', c', by rw [List.getElem?_append_left (by rw [h.len]; exact hi)]; exact e1, e2, e3, e4, e5⟩
    · have hi' : i = L.length := by
        have := (List.getElem?_eq_some_iff.1 hl).1
        simp at this; omega
      subst hi'
      simp at hl
      subst hl
      exact ⟨b, off, c, by rw [← h.len]; simp, h2, h3, h4, h5, h6⟩⟩
end RlsAt
/-- A list of records in memory, as a thing. -/
def AllZ (p : Option Addr) (S : List Rec) : World → List Nat → Prop := fun w C => (∀ b ∈ C, b < w.heap.size) ∧ ∃ vs, SlAt w p S.length 1 vs ∧ (0 < S.length → ∀ b o, p = some ⟨b, o, none⟩ → b ∈ C) ∧
  ∀ (i : Nat) r, S[i]? = some r → ∃ b off c, vs[i]? = some (.slice (some ⟨b, off, none⟩) r.length c) ∧ SlAt w (some ⟨b, off, none⟩) r.length 513 (chsV r) ∧ b ∈ C
theorem sl_kp0 {M : List Nat} {w w' : World} {p : Option Addr} {m sz : Nat} {cs : List Value} (h : SlAt w p m sz cs) (k : Kp M w w') (hM : 0 < m → ∀ b o, p = some ⟨b, o, none⟩ → b ∉ M) : SlAt w' p m sz cs := by
  by_cases h0 : 0 < m
  · exact h.kpd k (hM h0)
  · exact ⟨h.len, h.max, fun h1 => absurd h1 (by rw [show m = 0 by omega, Nat.zero_mul]; exact Nat.lt_irrefl 0)⟩
instance (p : Option Addr) (S : List Rec) : Thing (AllZ p S) :=
  ⟨fun {w w' B M} ⟨h1, vs, h2, h3, h4⟩ k hM => ⟨fun b hb => Nat.lt_of_lt_of_le (h1 b hb) k.size, vs, sl_kp0 h2 k fun h0 b o e => hM b (h3 h0 b o e), h3, fun i r hr => by
    obtain ⟨b, off, c, e1, e2, e3⟩ := h4 i r hr
    exact ⟨b, off, c, e1, e2.kpd k (fun b' o' e => by cases e; exact hM _ e3), e3⟩⟩, fun h b hb => h.1 b hb⟩
/-- Two things beside one another. -/
def AndZ (Y Z : World → List Nat → Prop) : World → List Nat → Prop := fun w C => ∃ C1 C2, C = C1 ++ C2 ∧ Y w C1 ∧ Z w C2
instance (Y Z : World → List Nat → Prop) [hY : Thing Y] [hZ : Thing Z] : Thing (AndZ Y Z) :=
  ⟨fun {w w' B M} ⟨C1, C2, e, h1, h2⟩ k hM => ⟨C1, C2, e, hY.kpd h1 k fun b hb => hM b (by rw [e]; exact List.mem_append_left _ hb), hZ.kpd h2 k fun b hb => hM b (by rw [e]; exact List.mem_append_right _ hb)⟩,
   fun {w B} ⟨C1, C2, e, h1, h2⟩ b hb => by
    rw [e] at hb
    exact (List.mem_append.1 hb).elim (hY.lt h1 b) (hZ.lt h2 b)⟩
/-- A thing that is new beside what was there. -/
theorem two_add {X Y Z : World → List Nat → Prop} [hX : Thing X] [hY : Thing Y] {lo : Nat} {L M C : List Nat} {w w' : World} (h : Two X Y lo L w) (k : Kp M w w') (hM : ∀ b ∈ M, b < lo ∨ b ∈ L) (hz : Z w' C) (hC : ∀ b ∈ C, w.heap.size ≤ b) : Two X (AndZ Y Z) lo L w' := by
  obtain ⟨⟨B, E, h1, h2, h3, h4⟩, h5, h6⟩ := h
  have hXl := fun b hb => hX.lt h1 b hb
  exact ⟨⟨B, E ++ C, hX.kpd h1 k fun b hb hm => (hM b hm).elim (fun hl => absurd (h3 b hb).1 (Nat.not_le.2 hl)) (h3 b hb).2.2,
    ⟨E, C, rfl, hY.kpd h2 k fun b hb hm => (hM b hm).elim (fun hl => absurd (h4 b hb).1 (Nat.not_le.2 hl)) (h4 b hb).2, hz⟩,
    fun b hb => ⟨(h3 b hb).1, fun hm => (List.mem_append.1 hm).elim (h3 b hb).2.1 fun hc => absurd (hXl b hb) (Nat.not_lt.2 (hC b hc)), (h3 b hb).2.2⟩,
    fun b hb => (List.mem_append.1 hb).elim (h4 b) fun hc => ⟨Nat.le_trans h5 (hC b hc), fun hm => absurd (h6 b hm) (Nat.not_lt.2 (hC b hc))⟩⟩, Nat.le_trans h5 k.size, fun b hb => Nat.lt_of_lt_of_le (h6 b hb) k.size⟩
/-- The log's sectors, as one run of bytes. -/
def logB (D : Dk) (n : Nat) : List UInt8 := ((List.range n).map fun i => readD D (1 + i)).flatten
theorem logB_succ (D : Dk) (n : Nat) : logB D (n + 1) = logB D n ++ readD D (1 + n) := by simp [logB, List.range_succ]
theorem readD_len {D : Dk} (h : DkOk D) {i : Nat} (hi : i < D.V.length) : (readD D i).length = 128 := lastS_ok (ver_ok h hi).2.1
/-- The records that count. -/
def okRow (s c k : Nat) (r : RowD') : Option Rec := if r.nn = k ∧ s ≤ r.c ∧ r.c ≤ c then ofR r.b else none
def recsL (s c : Nat) : Nat → List RowD' → List Rec
  | _, [] => []
  | k, r :: R => match okRow s c k r with
    | some x => x :: recsL s c (k + 1) R
    | none => []
def atS (S : List Rec) : Nat := (S.map fun r => needN (516 * r.length)).sum
def recsOf (D : Dk) (G : Lg) : List Rec := recsL G.since G.count 0 (rowsL G.size (logB D G.size) G.size)
end Go.Proofs.Ytkkgahgpemepeaa

/- The log read, walked. -/
namespace Go.Proofs.Ytkkgahgpemepeaa
open Go Go.RowKit Coup

/-- What stands in memory while the log is read. -/
structure RdAt (w0 : World) (B x g g1 g2 cc si n : Nat) (de : Bool) (T : List Rec) (W : World) : Prop where
  rx : row W x [.int .u64 (cc : Int), .int .u64 (si : Int), .pointer (some ⟨g, 0, none⟩), .int .i64 (n : Int), .int .i64 ((T.length : Nat) : Int), .int .i64 ((atS T : Nat) : Int), .bool de] 44
  r1 : row W g1 [.pointer (some ⟨x, 0, none⟩)] 45
  ow : ∃ v vs, row W g2 [v] 51 ∧ ownsAt W B 25 1 v T.length vs ∧ RlsAt W B v.ownBlock vs T
  kb : Kp [x] w0 W
theorem RdAt.soft {w0 W W' : World} {B B' x g g1 g2 cc si n : Nat} {de : Bool} {T : List Rec} (h : RdAt w0 B x g g1 g2 cc si n de T W) (hs : Soft B' W W') (hB : w0.heap.size ≤ B') : RdAt w0 B x g g1 g2 cc si n de T W' :=
  ⟨h.rx.soft hs, h.r1.soft hs, let ⟨v, vs, h1, h2, h3⟩ := h.ow; ⟨v, vs, h1.soft hs, h2.soft hs, h3.soft hs⟩, h.kb.soft hs hB⟩
theorem all_of {w0 W : World} {B e : Nat} {p : Option Addr} {c : Nat} {vs : List Value} {o : Option Nat} {S : List Rec} (hv : ownsAt W B e 1 (.slice p S.length c) S.length vs) (hr : RlsAt W B o vs S) (hB : w0.heap.size ≤ B) :
    AllZ p S W (List.range' w0.heap.size (W.heap.size - w0.heap.size)) := by
  have hC : ∀ b, w0.heap.size ≤ b → b < W.heap.size → b ∈ List.range' w0.heap.size (W.heap.size - w0.heap.size) := fun b h1 h2 => List.mem_range'_1.2 ⟨h1, by omega⟩
  refine ⟨fun b hb => by have := List.mem_range'_1.1 hb; omega, vs, hv.sl, fun h0 b o e => ?_, fun i r hi => ?_⟩
  · subst e
    have := hv.lt b rfl
    exact hC b (by omega) this.2
  · obtain ⟨b, off, c, h1, h2, h3, _, _, h6⟩ := hr.at_ i r hi
    exact ⟨b, off, c, h1, h2, hC b (by omega) h3⟩
theorem own_cells {w : World} {base e sz m b : Nat} {v : Value} {xs : List Value} (h : ownsAt w base e sz v m xs) (hb : v.ownBlock = some b) : ∃ o : Obj, w.heap[b]? = some o ∧ o.isCells = true := by
  rcases h.2 with hn | ⟨g, off, cap, cur, rfl, hb', hgg, rest⟩
  · simp [hn, Value.ownBlock] at hb
  · cases hb; exact ⟨_, hgg, rfl⟩
theorem own_cap {w : World} {base e sz m c : Nat} {p : Option Addr} {xs : List Value} (h : ownsAt w base e sz (.slice p m c) m xs) : m ≤ c := by
  rcases h.2 with ⟨hn, _⟩ | ⟨g, off, cap, cur, he, hb', hgg, hmc, _⟩
  · cases hn; exact Nat.le_refl _
  · cases he; exact hmc
theorem recsL_none {s c k : Nat} {r : RowD'} {R : List RowD'} (h : okRow s c k r = none) : recsL s c k (r :: R) = [] := by rw [recsL, h]
theorem recsL_some {s c k : Nat} {r : RowD'} {R : List RowD'} {x : Rec} (h : okRow s c k r = some x) : recsL s c k (r :: R) = x :: recsL s c (k + 1) R := by rw [recsL, h]
theorem atS_snoc (T : List Rec) (r : Rec) : atS (T ++ [r]) = atS T + needN (516 * r.length) := by simp [atS]
theorem ofR_may {b : List UInt8} {r : Rec} (h : ofR b = some r) : 1 ≤ r.length ∧ r.length ≤ 60 := by
  unfold ofR at h
  split at h
  · rename_i hok
    cases h
    rw [ofOk, Bool.and_eq_true, Bool.and_eq_true] at hok
    have := of_decide_eq_true hok.1.2
    rwa [ofL_len]
  · cases h
section
variable {Y : World → List Nat → Prop} [Thing Y] {g x lo : Nat} {L : List Nat} {D : Dk} {G : Lg} {w : World}
set_option maxRecDepth 20000 in
set_option maxHeartbeats 2000000 in
theorem read52 (h : LgAt g x Y lo L D G w) (hok : LgOk D G) (h0 : G.num = 0) (h1 : G.at_ = 0) :
    Calls Try.prog 52 [.pointer (some ⟨x, 0, none⟩)].toArray w (Ret fun v w' => ∃ p c, v = .tuple #[.slice p (recsOf D G).length c, .int .i64 0] ∧ (recsOf D G).length ≤ c ∧
      LgAt g x (AndZ Y (AllZ p (recsOf D G))) lo L D { G with num := (recsOf D G).length, at_ := atS (recsOf D G) } w' ∧ LoL lo L w w') := by
  have hB := Below.refl w.heap.size w
  have hx := h.rowx
  have hxl := hx.lt
  have hge := h.ge
  have hni := h.ni
  have hfit := hok.fit
  have hszm := hok.szm
  have hsz4 := hok.sz4
  have hDk := (tOk h.two).1
  have hml : maxLen = 9223372036854775807 := by decide
  have hrec : recsOf D G = recsL G.since G.count 0 (rowsL G.size (logB D G.size) G.size) := rfl
  have hTw := fun w' (hb : Below w.heap.size w w') i => tRead (h.new hb).two i
  generalize recsOf D G = S at *
  obtain ⟨cc, si, sz, nu, at_, de⟩ := G
  dsimp only [lgV] at *
  subst h0 h1
  refine calls_W (fn := Try.f52) (rs := [.cell 2 51, .tmp 3]) (n := 99) Try.func52 rfl rfl Try.ntmps52 (by kernel_rfl) rfl ?_
  refine W_seq ?_
  refine W_region ?_
  refine WR_mk rfl (mk_box ([_]) rfl (fun g1 w1 hg1 hr1 hb1 => ?_))
  have ge_hB_g1 := Nat.le_trans hB.size hg1
  have lt_x_g1 : x < g1 := Nat.lt_of_lt_of_le hx.lt hg1
  replace hx := hx.new hb1
  replace hB := hB.acc hb1
  refine WR_mk rfl (mk_alloc ([Value.slice none 0 0]) (by kernel_rfl) (fun g2 w2 hg2 hr2 hb2 => ?_))
  have ge_hB_g2 := Nat.le_trans hB.size hg2
  have lt_x_g2 : x < g2 := Nat.lt_of_lt_of_le hx.lt hg2
  have lt_g1_g2 : g1 < g2 := Nat.lt_of_lt_of_le hr1.lt hg2
  replace hx := hx.new hb2
  replace hr1 := hr1.new hb2
  replace hB := hB.acc hb2
  refine WR_val rfl (rn_assign) ?_
  refine WR_nil ?_
  refine thenN ?_
  refine W_seq ?_
  refine W_region ?_
  refine WR_val rfl (rn_assign) ?_
  refine WR_nil ?_
  refine thenN ?_
  refine W_seq ?_
  refine W_seq ?_
  refine W_region ?_
  refine WR_val rfl (rn_load rfl (Ld.row1 hr1 (by kernel_rfl) rfl)) ?_
  refine WR_val rfl (rn_nilCheckP rfl) ?_
  refine WR_val rfl (rn_fieldAddr (off := 3) (by kernel_rfl) rfl) ?_
  refine WR_val rfl (rn_load rfl (Ld.row1 hx (by kernel_rfl) rfl)) ?_
  refine WR_val rfl (rn_move) ?_
  refine WR_nil ?_
  refine thenN ?_
  refine W_block ?_
  have hx2 := hx.lt
  have h12 := hr1.lt
  have h22 := hr2.lt
  have hb2 := hB.size
  refine W_loop (α := Nat × Value) (0, .slice none 0 0) (fun k => [(16, .int .i64 (k.1 : Nat)), (15, .int .i64 (sz : Int)), (4, k.2), (1, .pointer (some ⟨g1, 0, none⟩)), (2, .pointer (some ⟨g2, 0, none⟩))])
    (fun k w' => k.1 ≤ sz ∧ ownsAt w' w2.heap.size 63 128 k.2 k.1 (bv (logB D k.1)) ∧ row w' x [.int .u64 (cc : Int), .int .u64 (si : Int), .pointer (some ⟨g, 0, none⟩), .int .i64 (sz : Int), .int .i64 ((0 : Nat) : Int), .int .i64 ((0 : Nat) : Int), .bool de] 44 ∧ row w' g1 [.pointer (some ⟨x, 0, none⟩)] 45 ∧ row w' g2 [.slice none 0 0] 51 ∧ Below w.heap.size w w' ∧ w2.heap.size ≤ w'.heap.size) (fun k => sz - k.1)
    ⟨rfl, rfl, rfl, rfl, rfl, rfl⟩ ⟨Nat.zero_le _, ownsAt_nil _ _ _ _, hx, hr1, hr2, hB, Nat.le_refl _⟩ ?_
  clear hx hr1 hr2 hB
  rintro ⟨i, u⟩ f wr ⟨hi, hu, hx, hr1, hr2, hB, hsw⟩
  dsimp only at *
  have hBr := Below.refl wr.heap.size wr
  refine W_seq ?_
  refine W_region ?_
  refine WR_val rfl (rn_lss rfl rfl) ?_
  refine WR_nil ?_
  refine thenN ?_
  refine W_seq ?_
  refine W_ifp rfl (fun hlt => ?_) (fun hlt => ?_)
  ·
    refine W_skip ?_
    refine thenN ?_
    refine W_seq ?_
    refine W_block ?_
    refine W_seq ?_
    refine W_region ?_
    refine WR_val rfl (rn_move) ?_
    refine WR_val rfl (rn_assign) ?_
    refine WR_nil ?_
    refine thenN ?_
    refine W_seq ?_
    refine W_region ?_
    have hcast : ((1 + i : Nat) : Int) = 1 + (i : Int) := by omega
    have hin : inD D ((1 + i : Nat) : Int) = true := decide_eq_true (by omega)
    have hsl := readD_len hDk (i := 1 + i) (by omega)
    have hlsn := logB_succ D i
    have hex : ∃ s, readD D (1 + i) = s := ⟨_, rfl⟩
    obtain ⟨s, hs⟩ := hex
    rw [hs] at hsl hlsn
    refine WR_val rfl (rn_load rfl (Ld.row1 hr1 (by kernel_rfl) rfl)) ?_
    refine WR_val rfl (rn_nilCheckP rfl) ?_
    refine WR_val rfl (rn_fieldAddr (off := 2) (by kernel_rfl) rfl) ?_
    refine WR_val rfl (rn_load rfl (Ld.row1 hx (by kernel_rfl) rfl)) ?_
    refine WR_val rfl (rn_move) ?_
    refine WR_val rfl (rn_add rfl rfl (Coup.w64 (by omega))) ?_
    have hrd := hTw _ hB ((1 + i : Nat) : Int)
    rw [hin, if_pos rfl, if_pos rfl, Int.toNat_natCast, hs, hcast] at hrd
    refine WR_ent rfl (rn_call (by kernel_rfl) rfl) (hrd) ?_
    rintro _ w26 ⟨rfl, hb26⟩
    replace hx := hx.new hb26
    replace hr1 := hr1.new hb26
    replace hr2 := hr2.new hb26
    replace hB := hB.acc hb26
    replace hBr := hBr.acc hb26
    refine WR_val rfl (rn_move) ?_
    refine WR_val rfl (rn_extract rfl rfl) ?_
    refine WR_val rfl (rn_extract rfl rfl) ?_
    refine WR_mk rfl (mk_alloc (List.replicate 128 (Value.int .u8 0)) (by kernel_rfl) (fun g6 w6 hg6 hr6 hb6 => ?_))
    have ge_hB_g6 := Nat.le_trans hB.size hg6
    have ge_hBr_g6 := Nat.le_trans hBr.size hg6
    have lt_x_g6 : x < g6 := Nat.lt_of_lt_of_le hx.lt hg6
    have lt_g1_g6 : g1 < g6 := Nat.lt_of_lt_of_le hr1.lt hg6
    have lt_g2_g6 : g2 < g6 := Nat.lt_of_lt_of_le hr2.lt hg6
    replace hx := hx.new hb6
    replace hr1 := hr1.new hb6
    replace hr2 := hr2.new hb6
    replace hB := hB.acc hb6
    replace hBr := hBr.acc hb6
    refine WR_sk rfl (sk_storeA 128 (bv s) rfl rfl hr6 (by kernel_rfl) (by first | assumption | (simp; done) | (simp [bv_length, *]; done)) (by first | assumption | (simp; done) | (simp [bv_length, *]; done) | rfl) (by first | exact bv_one _ | assumption | (simp [Value.oneCell']; done)) (fun w901 hr6 ho901 => ?_))
    replace hx := hx.only ho901 (Nat.ne_of_lt lt_x_g6)
    replace hr1 := hr1.only ho901 (Nat.ne_of_lt lt_g1_g6)
    replace hr2 := hr2.only ho901 (Nat.ne_of_lt lt_g2_g6)
    replace hB := ho901.below hB ge_hB_g6
    replace hBr := ho901.below hBr ge_hBr_g6
    refine WR_val rfl (rn_assign) ?_
    refine WR_nil ?_
    refine thenN ?_
    refine W_seq ?_
    refine W_seq ?_
    refine W_region ?_
    refine WR_val rfl (rn_move) ?_
    refine WR_val rfl (rn_neq rfl rfl) ?_
    refine WR_nil ?_
    refine thenN ?_
    refine W_fp rfl ((by simp)) ?_
    refine W_skip ?_
    refine thenN ?_
    refine W_region ?_
    refine WR_val rfl (rn_move) ?_
    refine WR_val rfl (rn_load rfl (Ld.rowA (k := 128) hr6 (by kernel_rfl) (by kernel_rfl) (by rw [bv_length, hsl]))) ?_
    refine WR_mk rfl (mk_one (e := 63) (.agg (bv s).toArray) (bv s) (List.replicate 128 (Value.int .u8 0)) 128 (by kernel_rfl) (by kernel_rfl) rfl rfl (by first | rfl | (simp; done) | (simp [bv_length, *]; done)) ⟨by decide, by decide⟩ (fun g34 w34 hg34 hr34 hb34 => ?_))
    have ge_hB_g34 := Nat.le_trans hB.size hg34
    have ge_hBr_g34 := Nat.le_trans hBr.size hg34
    have lt_x_g34 : x < g34 := Nat.lt_of_lt_of_le hx.lt hg34
    have lt_g1_g34 : g1 < g34 := Nat.lt_of_lt_of_le hr1.lt hg34
    have lt_g2_g34 : g2 < g34 := Nat.lt_of_lt_of_le hr2.lt hg34
    have lt_g6_g34 : g6 < g34 := Nat.lt_of_lt_of_le hr6.lt hg34
    replace hx := hx.new hb34
    replace hr1 := hr1.new hb34
    replace hr2 := hr2.new hb34
    replace hr6 := hr6.new hb34
    replace hB := hB.acc hb34
    replace hBr := hBr.acc hb34
    have hs34 := hr34.slA (m := 1) (sz := 128) (by rw [bv_length, hsl]) (by omega)
    replace hu := hu.new hBr
    have hbz := hBr.size
    have sz_hB_35 := hB.size
    refine WR_mk rfl (mk_append (e := 63) (sz := 128) (bytes := 128) (z := .agg (List.replicate 128 (Value.int .u8 0)).toArray) (by kernel_rfl) rfl (by kernel_rfl) rfl (by decide) rfl hu rfl hs34 (bv_one _) (by unfold maxLen; omega) (by omega) (fun hm0 => by omega) (fun v35 w35 hv35 hgr35 hfr35 => ?_))
    replace hx := hx.own hu hgr35 (by omega)
    replace hr1 := hr1.own hu hgr35 (by omega)
    replace hr2 := hr2.own hu hgr35 (by omega)
    replace hB := hB.own hu hgr35 (by omega)
    refine WR_val rfl (rn_assign) ?_
    refine WR_nil ?_
    refine blockN ?_
    refine thenN ?_
    refine W_region ?_
    refine WR_val rfl (rn_add rfl rfl (Coup.w64 (by omega))) ?_
    refine WR_val rfl (rn_move) ?_
    refine WR_nil ?_
    rw [← bv_append, ← hlsn] at hv35
    refine loopN ⟨(i + 1, v35), by show _ - (i + 1) < _ - i; omega, ⟨by go_num, rfl, rfl, rfl, rfl, rfl⟩, by show i + 1 ≤ _; omega, hv35, hx, hr1, hr2, hB, by have := hgr35.size; have := hBr.size; omega⟩
  ·
    have him : i = sz := by omega
    subst him
    have hobt := hu.form' (by omega)
    obtain ⟨ga, oa, ca, rfl, hga1, hga2, hca⟩ := hobt
    have hall := hu.sl
    refine W_exit ?_
    refine thenX ?_
    refine loopX ?_
    refine blockX ?_
    refine thenN ?_
    refine W_seq ?_
    refine W_seq ?_
    refine W_region ?_
    refine WR_val rfl (rn_move) ?_
    refine WR_ent rfl (rn_call (by kernel_rfl) rfl) (rows73 (logB D i) ga oa i ca wr hall (by omega) (by omega) hca) ?_
    rintro _ w38 ⟨gr, rfl, hgr, hgr2, hb38, hseq⟩
    replace hx := hx.new hb38
    replace hr1 := hr1.new hb38
    replace hr2 := hr2.new hb38
    replace hB := hB.acc hb38
    refine WR_nil ?_
    refine thenN ?_
    refine W_block ?_
    have hRs := rowsL_short i (logB D i) i
    have hRl := rowsL_len i (logB D i) i
    have hobt : ∃ R, rowsL i (logB D i) i = R := ⟨_, rfl⟩
    obtain ⟨R, hR⟩ := hobt
    rw [hR] at hseq hrec hRs hRl
    have hbs := hB.size
    have hobt : ∃ b, (w38).heap.size = b := ⟨_, rfl⟩
    obtain ⟨BB, hBB⟩ := hobt
    have hg1l := hr1.lt
    have hg2l := hr2.lt
    have hRd : RdAt w BB x g g1 g2 cc si i de [] w38 := ⟨hx, hr1, ⟨_, [], hr2, ownsAt_nil _ _ _ _, RlsAt.nil _ _ _⟩, Kp.of_below' hB⟩
    refine W_rangeFuncU (ps := [39, 40]) (m := R.length) (V := RowV R) (ks := [gr, ga]) (fun _ h => h) rfl (by kernel_rfl) hseq (Below.refl _ _) (by rintro k v W ⟨r, _, sp, rfl, _⟩; rfl) (by kernel_rfl) (by simp)
      (by intro y hy; simp only [List.mem_cons, List.not_mem_nil, or_false] at hy; rcases hy with rfl | rfl <;> omega)
      (fun k W => k ≤ R.length ∧ ∃ T : List Rec, T.length = k ∧ atS T ≤ 1000 * k ∧ S = T ++ recsL si cc k (R.drop k) ∧ RdAt w BB x g g1 g2 cc si i de T W)
      (fun c W => c = .exit 2 ∧ RdAt w BB x g g1 g2 cc si i de S W) (fun k W W' ⟨h1, T, h2, ha, h3, h4⟩ hs => ⟨h1, T, h2, ha, h3, h4.soft hs hbs⟩) (fun c W W' ⟨h1, h2⟩ hs => ⟨h1, h2.soft hs hbs⟩) ⟨Nat.zero_le _, [], rfl, Nat.le_refl _, hrec, hRd⟩ ?_ ?_ ?_
    · intro l k v W1 hkR hv hI hsz
      obtain ⟨hk, T, hTk, hat, hST, hT⟩ := hI
      obtain ⟨r, hRk, sp, rfl, hsp⟩ := hv
      have hrs := hRs r (List.mem_of_getElem? hRk)
      have hdr : R.drop k = r :: R.drop (k + 1) := by rw [List.drop_eq_getElem_cons hkR]; congr 1; exact Option.some.inj ((List.getElem?_eq_getElem hkR).symm.trans hRk)
      rw [hdr] at hST
      have hBa := Below.refl W1.heap.size W1
      refine W_seq ?_
      refine W_region ?_
      refine WR_mk rfl (mk_alloc ([Value.int .u64 0, Value.int .i64 0]) (by kernel_rfl) (fun g8 w8 hg8 hr8 hb8 => ?_))
      have ge_hBa_g8 := Nat.le_trans hBa.size hg8
      replace hBa := hBa.acc hb8
      refine WR_sk rfl (sk_storeA 2 ([.int .u64 (r.c : Int), .int .i64 (r.nn : Int)]) rfl rfl hr8 (by kernel_rfl) (by first | assumption | (simp; done) | (simp [bv_length, *]; done)) (by first | assumption | (simp; done) | (simp [bv_length, *]; done) | rfl) (by first | exact bv_one _ | assumption | (simp [Value.oneCell']; done)) (fun w902 hr8 ho902 => ?_))
      replace hBa := ho902.below hBa ge_hBa_g8
      refine WR_nil ?_
      refine thenN ?_
      refine W_region ?_
      refine WR_val rfl (rn_assign) ?_
      refine WR_nil ?_
      refine ⟨rfl, hBa, fun W2 hs => ?_⟩
      have hr8 := hr8.soft hs
      have hsp := (hsp.new hBa).soft hs
      have hsz2 := hs.size
      have hsz1 := hBa.size
      have hT2 : RdAt w BB x g g1 g2 cc si i de T W2 := RdAt.soft (w0 := w) ⟨hT.rx.new hBa, hT.r1.new hBa, let ⟨v, vs, q1, q2, q3⟩ := hT.ow; ⟨v, vs, q1.new hBa, q2.new hBa, q3.new hBa⟩, hT.kb.trans (Kp.of_below' hBa)⟩ hs hbs
      obtain ⟨hx, hr1, ⟨v, vs, hr2, hu, hrl⟩, hkb⟩ := hT2
      obtain ⟨pu, cu, rfl⟩ := hu.form
      have hBi := Below.refl W2.heap.size W2
      have hof := fun w' (h : SlAt w' sp r.b.length 1 (bv r.b)) => of13 r.b sp r.b.length r.b.length w' h (Nat.le_refl _) (by omega)
      cases hrb : ofR r.b with
      | none =>
        have hS2 : S = T := by rw [hST, recsL_none (by rw [okRow, hrb]; split <;> rfl), List.append_nil]
        have hof2 := fun w' (h : SlAt w' sp r.b.length 1 (bv r.b)) => (hof w' h).to fun v w2 h => (show v = .tuple #[.slice none 0 0, .int .i64 4] ∧ Below w'.heap.size w' w2 from ⟨h.1.elim (fun ⟨_, _, _, _, h1, _⟩ => by rw [hrb] at h1; cases h1) fun h => h.2, h.2⟩)
        refine W_block ?_
        refine W_seq ?_
        refine W_region ?_
        refine WR_val rfl (rn_move) ?_
        refine WR_ent rfl (rn_call (by kernel_rfl) rfl) (hof2 _ (hsp.new hBi)) ?_
        rintro _ w43 ⟨rfl, hb43⟩
        replace hr8 := hr8.new hb43
        replace hx := hx.new hb43
        replace hr1 := hr1.new hb43
        replace hBi := hBi.acc hb43
        refine WR_val rfl (rn_move) ?_
        refine WR_val rfl (rn_extract rfl rfl) ?_
        refine WR_val rfl (rn_extract rfl rfl) ?_
        refine WR_val rfl (rn_assign) ?_
        refine WR_val rfl (rn_assign) ?_
        refine WR_nil ?_
        refine thenN ?_
        refine W_seq ?_
        refine W_seq ?_
        refine W_draw' [] (by kernel_rfl) ?_
        intro w903 hb903 hS903
        replace hr8 := hr8.new hb903
        replace hx := hx.new hb903
        replace hr1 := hr1.new hb903
        replace hBi := hBi.acc hb903
        have hr8_d903 := hr8
        have hx_d903 := hx
        have hr1_d903 := hr1
        have hBi_d903 := hBi
        refine WA_take 0 (by kernel_rfl) rfl (fun _ _ => rn_move) ?_
        refine WA_take 1 (by kernel_rfl) rfl (fun _ _ => rn_neq rfl rfl) ?_
        refine WA_take 2 (by kernel_rfl) rfl (fun _ _ => rn_move) ?_
        refine WA_tp 48 rfl ((by decide)) ?_
        refine WA_skip 3 (by kernel_rfl) rfl ?_
        refine WA_skip 4 (by kernel_rfl) rfl ?_
        refine WA_skip 5 (by kernel_rfl) rfl ?_
        refine WA_skip 6 (by kernel_rfl) rfl ?_
        refine WA_skip 7 (by kernel_rfl) rfl ?_
        refine WA_skip 8 (by kernel_rfl) rfl ?_
        refine WA_skip 9 (by kernel_rfl) rfl ?_
        refine WA_take 10 (by kernel_rfl) rfl (fun _ _ => rn_pick_t rfl) ?_
        refine WA_take 11 (by kernel_rfl) rfl (fun _ _ => rn_move) ?_
        refine WA_skip 12 (by kernel_rfl) rfl ?_
        refine WA_skip 13 (by kernel_rfl) rfl ?_
        refine WA_skip 14 (by kernel_rfl) rfl ?_
        refine WA_skip 15 (by kernel_rfl) rfl ?_
        refine WA_skip 16 (by kernel_rfl) rfl ?_
        refine WA_skip 17 (by kernel_rfl) rfl ?_
        refine WA_skip 18 (by kernel_rfl) rfl ?_
        refine WA_skip 19 (by kernel_rfl) rfl ?_
        refine WA_take 20 (by kernel_rfl) rfl (fun _ _ => rn_pick_t rfl) ?_
        refine WA_take 21 (by kernel_rfl) rfl (fun _ _ => rn_move) ?_
        refine WA_skip 22 (by kernel_rfl) rfl ?_
        refine WA_skip 23 (by kernel_rfl) rfl ?_
        refine WA_skip 24 (by kernel_rfl) rfl ?_
        refine WA_skip 25 (by kernel_rfl) rfl ?_
        refine WA_skip 26 (by kernel_rfl) rfl ?_
        refine WA_skip 27 (by kernel_rfl) rfl ?_
        refine WA_skip 28 (by kernel_rfl) rfl ?_
        refine WA_skip 29 (by kernel_rfl) rfl ?_
        refine WA_take 30 (by kernel_rfl) rfl (fun _ _ => rn_pick_t rfl) ?_
        refine WA_done (by kernel_rfl) ?_
        refine thenN ?_
        refine W_t rfl ?_
        refine W_exit ?_
        refine thenX ?_
        refine blockO rfl ?_
        exact ⟨keepsFrom_of_kp (M := []) (Kp.of_below hBi) (by simp), rfl, hS2 ▸ ⟨hx, hr1, ⟨_, vs, hr2.new hBi, hu.new hBi, hrl.new hBi⟩, hkb.trans (Kp.of_below' hBi)⟩⟩
      | some rr =>
        have hof3 := fun w' (h : SlAt w' sp r.b.length 1 (bv r.b)) => (hof w' h).to fun v w2 h => (show ∃ g o c, v = .tuple #[.slice (some ⟨g, o, none⟩) rr.length c, .int .i64 0] ∧ w'.heap.size ≤ g ∧ rr.length ≤ c ∧ SlAt w2 (some ⟨g, o, none⟩) rr.length 513 (chsV rr) ∧ Below w'.heap.size w' w2 from h.1.elim (fun ⟨r2, g, o, c, h1, h2, h3, h4, h5⟩ => by rw [hrb] at h1; cases h1; exact ⟨g, o, c, h2, h3, h4, h5, h.2⟩) fun h => by rw [hrb] at h; cases h.1)
        have hrr := ofR_may hrb
        have hnw := needW_pos hrr
        have hN : needN (516 * rr.length) ≤ 1000 := by unfold needN manyN; omega
        refine W_block ?_
        refine W_seq ?_
        refine W_region ?_
        refine WR_val rfl (rn_move) ?_
        refine WR_ent rfl (rn_call (by kernel_rfl) rfl) (hof3 _ (hsp.new hBi)) ?_
        rintro _ w43 ⟨gq, oq, cq, rfl, hgq, hcq, hsq, hb43⟩
        replace hr8 := hr8.new hb43
        replace hx := hx.new hb43
        replace hr1 := hr1.new hb43
        replace hBi := hBi.acc hb43
        refine WR_val rfl (rn_move) ?_
        refine WR_val rfl (rn_extract rfl rfl) ?_
        refine WR_val rfl (rn_extract rfl rfl) ?_
        refine WR_val rfl (rn_assign) ?_
        refine WR_val rfl (rn_assign) ?_
        refine WR_nil ?_
        refine thenN ?_
        refine W_seq ?_
        refine W_seq ?_
        refine W_draw' [] (by kernel_rfl) ?_
        intro w904 hb904 hS904
        replace hr8 := hr8.new hb904
        replace hx := hx.new hb904
        replace hr1 := hr1.new hb904
        replace hsq := hsq.new hb904
        replace hBi := hBi.acc hb904
        have hr8_d904 := hr8
        have hx_d904 := hx
        have hr1_d904 := hr1
        have hsq_d904 := hsq
        have hBi_d904 := hBi
        refine WA_take 0 (by kernel_rfl) rfl (fun _ _ => rn_move) ?_
        refine WA_take 1 (by kernel_rfl) rfl (fun _ _ => rn_neq rfl rfl) ?_
        refine WA_take 2 (by kernel_rfl) rfl (fun _ _ => rn_move) ?_
        refine WA_fp 48 rfl ((by simp)) ?_
        refine WA_take 3 (by kernel_rfl) rfl (fun _ _ => rn_fieldAddr (off := 1) (by kernel_rfl) rfl) ?_
        refine WA_take 4 (by kernel_rfl) rfl (fun w' hS' => rn_load rfl (Ld.row1 (hr8_d904.kpd hS' (by first | (simp; done) | (simp; omega) | (simp [*]; done) | exact notLL (Or.inl (by omega)) | exact notLL (Or.inr (by simp)) | exact fun g hm => Nat.le_trans (by omega) (inLL hm).1 | (intro b o e; cases e; exact notLL (Or.inl (by omega))) | (intro b hm; have := (hu.lt b (Option.mem_toList.1 hm)).1; omega) | (intro b o e; cases e; intro hm; have := (hu.lt _ (Option.mem_toList.1 hm)).1; omega))) (by kernel_rfl) rfl)) ?_
        refine WA_take 5 (by kernel_rfl) rfl (fun w' hS' => rn_load rfl (Ld.row1 (hr1_d904.kpd hS' (by first | (simp; done) | (simp; omega) | (simp [*]; done) | exact notLL (Or.inl (by omega)) | exact notLL (Or.inr (by simp)) | exact fun g hm => Nat.le_trans (by omega) (inLL hm).1 | (intro b o e; cases e; exact notLL (Or.inl (by omega))) | (intro b hm; have := (hu.lt b (Option.mem_toList.1 hm)).1; omega) | (intro b o e; cases e; intro hm; have := (hu.lt _ (Option.mem_toList.1 hm)).1; omega))) (by kernel_rfl) rfl)) ?_
        refine WA_take 6 (by kernel_rfl) rfl (fun _ _ => rn_nilCheckP rfl) ?_
        refine WA_take 7 (by kernel_rfl) rfl (fun _ _ => rn_fieldAddr (off := 4) (by kernel_rfl) rfl) ?_
        refine WA_take 8 (by kernel_rfl) rfl (fun w' hS' => rn_load rfl (Ld.row1 (hx_d904.kpd hS' (by first | (simp; done) | (simp; omega) | (simp [*]; done) | exact notLL (Or.inl (by omega)) | exact notLL (Or.inr (by simp)) | exact fun g hm => Nat.le_trans (by omega) (inLL hm).1 | (intro b o e; cases e; exact notLL (Or.inl (by omega))) | (intro b hm; have := (hu.lt b (Option.mem_toList.1 hm)).1; omega) | (intro b o e; cases e; intro hm; have := (hu.lt _ (Option.mem_toList.1 hm)).1; omega))) (by kernel_rfl) rfl)) ?_
        refine WA_take 9 (by kernel_rfl) rfl (fun _ _ => rn_neq rfl rfl) ?_
        refine WA_take 10 (by kernel_rfl) rfl (fun _ _ => rn_pick_f rfl) ?_
        refine WA_take 11 (by kernel_rfl) rfl (fun _ _ => rn_move) ?_
        refine WA_part 57 rfl (fun hnn => ?_) (fun hnn => ?_)
        ·
          refine WA_skip 12 (by kernel_rfl) rfl ?_
          refine WA_skip 13 (by kernel_rfl) rfl ?_
          refine WA_skip 14 (by kernel_rfl) rfl ?_
          refine WA_skip 15 (by kernel_rfl) rfl ?_
          refine WA_skip 16 (by kernel_rfl) rfl ?_
          refine WA_skip 17 (by kernel_rfl) rfl ?_
          refine WA_skip 18 (by kernel_rfl) rfl ?_
          refine WA_skip 19 (by kernel_rfl) rfl ?_
          refine WA_take 20 (by kernel_rfl) rfl (fun _ _ => rn_pick_t rfl) ?_
          refine WA_take 21 (by kernel_rfl) rfl (fun _ _ => rn_move) ?_
          refine WA_skip 22 (by kernel_rfl) rfl ?_
          refine WA_skip 23 (by kernel_rfl) rfl ?_
          refine WA_skip 24 (by kernel_rfl) rfl ?_
          refine WA_skip 25 (by kernel_rfl) rfl ?_
          refine WA_skip 26 (by kernel_rfl) rfl ?_
          refine WA_skip 27 (by kernel_rfl) rfl ?_
          refine WA_skip 28 (by kernel_rfl) rfl ?_
          refine WA_skip 29 (by kernel_rfl) rfl ?_
          refine WA_take 30 (by kernel_rfl) rfl (fun _ _ => rn_pick_t rfl) ?_
          refine WA_done (by kernel_rfl) ?_
          refine thenN ?_
          refine W_t rfl ?_
          refine W_exit ?_
          refine thenX ?_
          refine blockO rfl ?_
          have hS2 : S = T := by rw [hST, recsL_none (by rw [okRow, if_neg (by omega)]), List.append_nil]
          exact ⟨keepsFrom_of_kp (M := []) (Kp.of_below hBi) (by simp), rfl, hS2 ▸ ⟨hx, hr1, ⟨_, vs, hr2.new hBi, hu.new hBi, hrl.new hBi⟩, hkb.trans (Kp.of_below' hBi)⟩⟩
        ·
          refine WA_take 12 (by kernel_rfl) rfl (fun _ _ => rn_fieldAddr (off := 0) (by kernel_rfl) rfl) ?_
          refine WA_take 13 (by kernel_rfl) rfl (fun w' hS' => rn_load rfl (Ld.row1 (hr8_d904.kpd hS' (by first | (simp; done) | (simp; omega) | (simp [*]; done) | exact notLL (Or.inl (by omega)) | exact notLL (Or.inr (by simp)) | exact fun g hm => Nat.le_trans (by omega) (inLL hm).1 | (intro b o e; cases e; exact notLL (Or.inl (by omega))) | (intro b hm; have := (hu.lt b (Option.mem_toList.1 hm)).1; omega) | (intro b o e; cases e; intro hm; have := (hu.lt _ (Option.mem_toList.1 hm)).1; omega))) (by kernel_rfl) rfl)) ?_
          refine WA_take 14 (by kernel_rfl) rfl (fun w' hS' => rn_load rfl (Ld.row1 (hr1_d904.kpd hS' (by first | (simp; done) | (simp; omega) | (simp [*]; done) | exact notLL (Or.inl (by omega)) | exact notLL (Or.inr (by simp)) | exact fun g hm => Nat.le_trans (by omega) (inLL hm).1 | (intro b o e; cases e; exact notLL (Or.inl (by omega))) | (intro b hm; have := (hu.lt b (Option.mem_toList.1 hm)).1; omega) | (intro b o e; cases e; intro hm; have := (hu.lt _ (Option.mem_toList.1 hm)).1; omega))) (by kernel_rfl) rfl)) ?_
          refine WA_take 15 (by kernel_rfl) rfl (fun _ _ => rn_nilCheckP rfl) ?_
          refine WA_take 16 (by kernel_rfl) rfl (fun _ _ => rn_fieldAddr (off := 0) (by kernel_rfl) rfl) ?_
          refine WA_take 17 (by kernel_rfl) rfl (fun _ _ => rn_fieldAddr (off := 1) (by kernel_rfl) rfl) ?_
          refine WA_take 18 (by kernel_rfl) rfl (fun w' hS' => rn_load rfl (Ld.row1 (hx_d904.kpd hS' (by first | (simp; done) | (simp; omega) | (simp [*]; done) | exact notLL (Or.inl (by omega)) | exact notLL (Or.inr (by simp)) | exact fun g hm => Nat.le_trans (by omega) (inLL hm).1 | (intro b o e; cases e; exact notLL (Or.inl (by omega))) | (intro b hm; have := (hu.lt b (Option.mem_toList.1 hm)).1; omega) | (intro b o e; cases e; intro hm; have := (hu.lt _ (Option.mem_toList.1 hm)).1; omega))) (by kernel_rfl) rfl)) ?_
          refine WA_take 19 (by kernel_rfl) rfl (fun _ _ => rn_lss rfl rfl) ?_
          refine WA_take 20 (by kernel_rfl) rfl (fun _ _ => rn_pick_f rfl) ?_
          refine WA_take 21 (by kernel_rfl) rfl (fun _ _ => rn_move) ?_
          refine WA_part 67 rfl (fun hsi => ?_) (fun hsi => ?_)
          ·
            refine WA_skip 22 (by kernel_rfl) rfl ?_
            refine WA_skip 23 (by kernel_rfl) rfl ?_
            refine WA_skip 24 (by kernel_rfl) rfl ?_
            refine WA_skip 25 (by kernel_rfl) rfl ?_
            refine WA_skip 26 (by kernel_rfl) rfl ?_
            refine WA_skip 27 (by kernel_rfl) rfl ?_
            refine WA_skip 28 (by kernel_rfl) rfl ?_
            refine WA_skip 29 (by kernel_rfl) rfl ?_
            refine WA_take 30 (by kernel_rfl) rfl (fun _ _ => rn_pick_t rfl) ?_
            refine WA_done (by kernel_rfl) ?_
            refine thenN ?_
            refine W_t rfl ?_
            refine W_exit ?_
            refine thenX ?_
            refine blockO rfl ?_
            have hS2 : S = T := by rw [hST, recsL_none (by rw [okRow, if_neg (by omega)]), List.append_nil]
            exact ⟨keepsFrom_of_kp (M := []) (Kp.of_below hBi) (by simp), rfl, hS2 ▸ ⟨hx, hr1, ⟨_, vs, hr2.new hBi, hu.new hBi, hrl.new hBi⟩, hkb.trans (Kp.of_below' hBi)⟩⟩
          ·
            refine WA_take 22 (by kernel_rfl) rfl (fun _ _ => rn_fieldAddr (off := 0) (by kernel_rfl) rfl) ?_
            refine WA_take 23 (by kernel_rfl) rfl (fun w' hS' => rn_load rfl (Ld.row1 (hr8_d904.kpd hS' (by first | (simp; done) | (simp; omega) | (simp [*]; done) | exact notLL (Or.inl (by omega)) | exact notLL (Or.inr (by simp)) | exact fun g hm => Nat.le_trans (by omega) (inLL hm).1 | (intro b o e; cases e; exact notLL (Or.inl (by omega))) | (intro b hm; have := (hu.lt b (Option.mem_toList.1 hm)).1; omega) | (intro b o e; cases e; intro hm; have := (hu.lt _ (Option.mem_toList.1 hm)).1; omega))) (by kernel_rfl) rfl)) ?_
            refine WA_take 24 (by kernel_rfl) rfl (fun w' hS' => rn_load rfl (Ld.row1 (hr1_d904.kpd hS' (by first | (simp; done) | (simp; omega) | (simp [*]; done) | exact notLL (Or.inl (by omega)) | exact notLL (Or.inr (by simp)) | exact fun g hm => Nat.le_trans (by omega) (inLL hm).1 | (intro b o e; cases e; exact notLL (Or.inl (by omega))) | (intro b hm; have := (hu.lt b (Option.mem_toList.1 hm)).1; omega) | (intro b o e; cases e; intro hm; have := (hu.lt _ (Option.mem_toList.1 hm)).1; omega))) (by kernel_rfl) rfl)) ?_
            refine WA_take 25 (by kernel_rfl) rfl (fun _ _ => rn_nilCheckP rfl) ?_
            refine WA_take 26 (by kernel_rfl) rfl (fun _ _ => rn_fieldAddr (off := 0) (by kernel_rfl) rfl) ?_
            refine WA_take 27 (by kernel_rfl) rfl (fun _ _ => rn_fieldAddr (off := 0) (by kernel_rfl) rfl) ?_
            refine WA_take 28 (by kernel_rfl) rfl (fun w' hS' => rn_load rfl (Ld.row1 (hx_d904.kpd hS' (by first | (simp; done) | (simp; omega) | (simp [*]; done) | exact notLL (Or.inl (by omega)) | exact notLL (Or.inr (by simp)) | exact fun g hm => Nat.le_trans (by omega) (inLL hm).1 | (intro b o e; cases e; exact notLL (Or.inl (by omega))) | (intro b hm; have := (hu.lt b (Option.mem_toList.1 hm)).1; omega) | (intro b o e; cases e; intro hm; have := (hu.lt _ (Option.mem_toList.1 hm)).1; omega))) (by kernel_rfl) rfl)) ?_
            refine WA_take 29 (by kernel_rfl) rfl (fun _ _ => rn_gtr rfl rfl) ?_
            refine WA_take 30 (by kernel_rfl) rfl (fun _ _ => rn_pick_f rfl) ?_
            refine WA_done (by kernel_rfl) ?_
            refine thenN ?_
            refine W_ifp rfl (fun hcc => ?_) (fun hcc => ?_)
            ·
              refine W_exit ?_
              refine thenX ?_
              refine blockO rfl ?_
              have hS2 : S = T := by rw [hST, recsL_none (by rw [okRow, if_neg (by omega)]), List.append_nil]
              exact ⟨keepsFrom_of_kp (M := []) (Kp.of_below hBi) (by simp), rfl, hS2 ▸ ⟨hx, hr1, ⟨_, vs, hr2.new hBi, hu.new hBi, hrl.new hBi⟩, hkb.trans (Kp.of_below' hBi)⟩⟩
            ·
              have hok2 : okRow si cc k r = some rr := by rw [okRow, if_pos (by omega), hrb]
              rw [recsL_some hok2] at hST
              have hu2 := hu
              have hsi2 := hsi
              refine W_skip ?_
              refine thenN ?_
              refine W_seq ?_
              refine W_region ?_
              replace hr2 := hr2.new hBi
              replace hu := hu.new hBi
              replace hrl := hrl.new hBi
              have hBe := hBi
              have hKx : KpB (x :: g2 :: (Value.slice pu T.length cu).ownBlock.toList) W2 w904 := ⟨Kp.of_below' hBi⟩
              have hwz := hBi.size
              refine WR_val rfl (rn_load rfl (Ld.row1 hr2 (by kernel_rfl) rfl)) ?_
              refine WR_val rfl (rn_move) ?_
              refine WR_mk rfl (mk_one (e := 25) (.slice (some ⟨gq, oq, none⟩) rr.length cq) ([.slice (some ⟨gq, oq, none⟩) rr.length cq]) ([Value.slice none 0 0]) 1 (by kernel_rfl) (by kernel_rfl) rfl rfl rfl ⟨by decide, by decide⟩ (fun g79 w79 hg79 hr79 hb79 => ?_))
              have lt_x_g79 : x < g79 := Nat.lt_of_lt_of_le hx.lt hg79
              have lt_g1_g79 : g1 < g79 := Nat.lt_of_lt_of_le hr1.lt hg79
              have lt_g2_g79 : g2 < g79 := Nat.lt_of_lt_of_le hr2.lt hg79
              replace hx := hx.new hb79
              replace hr1 := hr1.new hb79
              replace hsq := hsq.new hb79
              replace hr2 := hr2.new hb79
              replace hu := hu.new hb79
              replace hrl := hrl.new hb79
              replace hKx := hKx.new hb79
              have hs79 := hr79.slA (m := 1) (sz := 1) rfl (by omega)
              have hgq2 := (hsq.some (by omega))
              obtain ⟨_, _, hqe, hgq3⟩ := hgq2
              cases hqe
              have hwz2 := hb79.size
              refine WR_mk rfl (mk_append (e := 25) (sz := 1) (bytes := 24) (z := Value.slice none 0 0) (by kernel_rfl) rfl (by kernel_rfl) rfl (by decide) rfl hu rfl hs79 (by simp [Value.oneCell']) (by unfold maxLen; omega) (by omega) (fun hm0 => by omega) (fun v80 w80 hv80 hgr80 hfr80 => ?_))
              replace hx := hx.own hu hgr80 (by omega)
              replace hr1 := hr1.own hu hgr80 (by omega)
              replace hr2 := hr2.own hu hgr80 (by omega)
              obtain ⟨p80, c80, rfl⟩ := hv80.form
              have hne : ∀ b, (Value.slice pu T.length cu).ownBlock = some b → BB ≤ b ∧ b < W2.heap.size := hu2.lt
              have hsq2 := hsq.kpd (Kp.of_grown hgr80) (fun b o e hm => by cases e; have := (hne _ (Option.mem_toList.1 hm)).2; omega)
              have hrl2 := (hrl.grow hgr80 hfr80).snoc hsq2 (Nat.lt_of_lt_of_le hgq3 hgr80.size) (fun e => (hfr80 gq e.symm).elim (fun e' => by have := (hne _ e').2; omega) (fun e' => by omega)) hcq (by omega)
              replace hKx := hKx.kpd (Kp.of_grown hgr80) (fun b hb => .inl (List.mem_cons_of_mem _ (List.mem_cons_of_mem _ hb)))
              refine WR_sk rfl (sk_store1 rfl rfl rfl rfl hr2 (by kernel_rfl) (by first | (simp only [List.length_replicate]; omega) | (simp only [iv_length]; omega) | (simp only [bv_length, List.length_set]; omega) | simp) (fun w905 hr2 ho905 => ?_))
              replace hx := hx.only ho905 (Nat.ne_of_lt lt_x_g2)
              replace hr1 := hr1.only ho905 (Nat.ne_of_lt lt_g1_g2)
              replace hv80 := hv80.only ho905 (by omega)
              replace hKx := hKx.only ho905 (by simp)
              replace hrl2 := hrl2.only ho905 (by omega)
              refine WR_nil ?_
              refine thenN ?_
              refine W_seq ?_
              refine W_region ?_
              refine WR_val rfl (rn_load rfl (Ld.row1 hr1 (by kernel_rfl) rfl)) ?_
              refine WR_val rfl (rn_nilCheckP rfl) ?_
              refine WR_val rfl (rn_fieldAddr (off := 4) (by kernel_rfl) rfl) ?_
              refine WR_val rfl (rn_load rfl (Ld.row1 hx (by kernel_rfl) rfl)) ?_
              refine WR_val rfl (rn_add rfl rfl (Coup.w64 (by omega))) ?_
              refine WR_val rfl (rn_nilCheckP rfl) ?_
              refine WR_val rfl (rn_fieldAddr (off := 4) (by kernel_rfl) rfl) ?_
              refine WR_sk rfl (sk_store1 rfl rfl rfl rfl hx (by kernel_rfl) (by first | (simp only [List.length_replicate]; omega) | (simp only [iv_length]; omega) | (simp only [bv_length, List.length_set]; omega) | simp) (fun w906 hx ho906 => ?_))
              replace hr1 := hr1.only ho906 (Nat.ne_of_gt lt_x_g1)
              replace hr2 := hr2.only ho906 (Nat.ne_of_gt lt_x_g2)
              replace hv80 := hv80.only ho906 (by omega)
              replace hKx := hKx.only ho906 (by simp)
              replace hrl2 := hrl2.only ho906 (by omega)
              refine WR_nil ?_
              refine thenN ?_
              have hx2 : row w906 x [.int .u64 (cc : Int), .int .u64 (si : Int), .pointer (some ⟨g, 0, none⟩), .int .i64 (i : Int), .int .i64 (((T.length : Nat) : Int) + 1), .int .i64 ((atS T : Nat) : Int), .bool de] 44 := hx
              replace hx := hx2
              clear hx2
              refine W_draw' [x] (by kernel_rfl) ?_
              intro w907 hb907 hS907
              replace hx := hx.new hb907
              replace hr1 := hr1.new hb907
              replace hr2 := hr2.new hb907
              replace hv80 := hv80.new hb907
              replace hKx := hKx.new hb907
              replace hrl2 := hrl2.new hb907
              have hx_d907 := hx
              have hr1_d907 := hr1
              have hr2_d907 := hr2
              have hv80_d907 := hv80
              have hKx_d907 := hKx
              have hrl2_d907 := hrl2
              refine WA_take 0 (by kernel_rfl) rfl (fun w' hS' => rn_load rfl (Ld.row1 (hr1_d907.kpd hS' (by first | (simp; done) | (simp; omega) | (simp [*]; done) | exact notLL (Or.inl (by omega)) | exact notLL (Or.inr (by simp)) | exact fun g hm => Nat.le_trans (by omega) (inLL hm).1 | (intro b o e; cases e; exact notLL (Or.inl (by omega))) | (intro b hm; have := (hu.lt b (Option.mem_toList.1 hm)).1; omega) | (intro b o e; cases e; intro hm; have := (hu.lt _ (Option.mem_toList.1 hm)).1; omega))) (by kernel_rfl) rfl)) ?_
              refine WA_take 1 (by kernel_rfl) rfl (fun _ _ => rn_nilCheckP rfl) ?_
              refine WA_take 2 (by kernel_rfl) rfl (fun _ _ => rn_fieldAddr (off := 5) (by kernel_rfl) rfl) ?_
              refine WA_take 4 (by kernel_rfl) rfl (fun _ _ => rn_move) ?_
              refine WA_take 5 (by kernel_rfl) rfl (fun _ _ => rn_lenSl (e := 90) (sz := 513) (by kernel_rfl) rfl rfl) ?_
              refine WA_call 6 (by kernel_rfl) rfl (fun _ => rn_call (by kernel_rfl) rfl) (fun w' hS' => need10 rr.length w') ?_
              refine WA_one 3 (by kernel_rfl) ?_
              refine WO_val rfl rfl (rn_load rfl (Ld.row1 hx (by kernel_rfl) rfl)) hS907 ?_
              refine WA_take 7 (by kernel_rfl) rfl (fun _ _ => rn_add rfl rfl (Coup.w64 (by rw [hnw.1]; omega))) ?_
              refine WA_take 8 (by kernel_rfl) rfl (fun _ _ => rn_nilCheckP rfl) ?_
              refine WA_take 9 (by kernel_rfl) rfl (fun _ _ => rn_fieldAddr (off := 5) (by kernel_rfl) rfl) ?_
              refine WA_one 10 (by kernel_rfl) ?_
              refine WO_sk rfl rfl (sk_store1 rfl rfl rfl rfl hx (by kernel_rfl) (by first | (simp only [List.length_replicate]; omega) | (simp only [iv_length]; omega) | (simp only [bv_length, List.length_set]; omega) | simp) (fun w910 hx ho910 => ?_))
              have hS909 := hS907.add1 ho910 (by first | (left; omega) | (right; simp; done) | (right; simp; omega))
              refine ⟨hS909, ?_⟩
              replace hr1 := hr1.only ho910 (Nat.ne_of_gt lt_x_g1)
              replace hr2 := hr2.only ho910 (Nat.ne_of_gt lt_x_g2)
              replace hv80 := hv80.only ho910 (by omega)
              replace hKx := hKx.only ho910 (by simp)
              replace hrl2 := hrl2.only ho910 (by omega)
              refine WA_done (by kernel_rfl) ?_
              refine blockN ?_
              have e1 : (((T ++ [rr]).length : Nat) : Int) = ((T.length : Nat) : Int) + 1 := by rw [List.length_append]; rfl
              have e2 : ((atS (T ++ [rr]) : Nat) : Int) = ((atS T : Nat) : Int) + needW rr.length := by rw [atS_snoc, hnw.1]; rfl
              refine ⟨keepsFrom_of_kp hKx.k fun b hb => ?_, fun b hb => ?_, by omega, T ++ [rr], by rw [List.length_append, List.length_singleton]; omega, by rw [atS_snoc]; omega, by rw [List.append_assoc]; exact hST, by rw [e1, e2]; exact hx, hr1, ⟨_, _, hr2, by rw [List.length_append]; exact hv80, hrl2⟩, ?_⟩
              · rcases List.mem_cons.1 hb with rfl | hb
                · left; omega
                · rcases List.mem_cons.1 hb with rfl | hb
                  · left; omega
                  · right; exact own_cells hu2 (Option.mem_toList.1 hb)
              · have hbl : b < BB ∧ b ≠ x ∧ b ≠ g2 := by
                  simp only [List.mem_cons, List.not_mem_nil, or_false] at hb
                  rcases hb with rfl | rfl <;> omega
                refine hKx.k.block b (by omega) fun hm => ?_
                rcases List.mem_cons.1 hm with e | hm
                · exact hbl.2.1 e
                · rcases List.mem_cons.1 hm with e | hm
                  · exact hbl.2.2 e
                  · have := (hne _ (Option.mem_toList.1 hm)).1; omega
              · refine ((⟨hkb⟩ : KpB [x] w W2).kpd hKx.k fun b hm => ?_).k
                rcases List.mem_cons.1 hm with e | hm
                · left; simp [e]
                · rcases List.mem_cons.1 hm with e | hm
                  · right; omega
                  · have := (hne _ (Option.mem_toList.1 hm)).1; right; omega
    · intro Dd W hD hI hdef
      obtain ⟨hk, T, hTk, hat, hST, hT⟩ := hI
      rw [List.drop_length, recsL, List.append_nil] at hST
      subst hST
      obtain ⟨hx, hr1, ⟨v, vs, hr2, hu, hrl⟩, hkb⟩ := hT
      obtain ⟨pu, cu, rfl⟩ := hu.form
      refine blockN ?_
      refine thenN ?_
      refine W_seq ?_
      refine W_region ?_
      refine WR_val rfl (rn_load rfl (Ld.row1 hr2 (by kernel_rfl) rfl)) ?_
      refine WR_sk rfl (sk_store1 rfl rfl rfl rfl hr2 (by kernel_rfl) (by first | (simp only [List.length_replicate]; omega) | (simp only [iv_length]; omega) | (simp only [bv_length, List.length_set]; omega) | simp) (fun w911 hr2 ho911 => ?_))
      have hdef2 : (w911).heap[Dd]? = some (.deferred (some [])) := ((Kp.of_only ho911).block Dd (Array.getElem?_eq_some_iff.1 hdef).1 (by simp; omega)).trans hdef
      replace hdef := hdef2
      clear hdef2
      have hput := Soft.put (B := w.heap.size) (.deferred none) hdef (by omega) rfl
      have hr2n : row w911 g2 [.slice pu S.length cu] 51 := hr2
      have hr2p := hr2n.soft hput
      have hx2 := (hx.only ho911 (by omega)).soft hput
      have hu2 := (hu.only ho911 (by omega)).soft hput
      have hrl2 := (hrl.only ho911 (by omega)).soft hput
      have hk2 := ((⟨hkb⟩ : KpB [x] w W).only ho911 (by right; omega)).k.soft hput (Nat.le_refl _)
      refine WR_val rfl (rn_assign) ?_
      refine WR_nil ?_
      refine thenN ?_
      refine W_ret ?_
      refine ret_mark [_, _] Dd hdef ⟨⟨_, rfl, Ld.row1 hr2p (by kernel_rfl) rfl⟩, rfl, trivial⟩ ?_
      exact ⟨pu, cu, rfl, own_cap hu2, ⟨two_add h.two hk2 (fun b hb => .inr (by simp at hb; simp [hb])) (all_of hu2 hrl2 (by omega)) (fun b hb => (List.mem_range'_1.1 hb).1), hx2, hge, hni⟩, LoL.of_kp hk2 (fun b hb => .inl (by simp at hb; subst hb; exact ⟨hge, hni⟩))⟩
    · intro Dd c W' hD hI hdef
      obtain ⟨rfl, hT⟩ := hI
      obtain ⟨hx, hr1, ⟨v, vs, hr2, hu, hrl⟩, hkb⟩ := hT
      obtain ⟨pu, cu, rfl⟩ := hu.form
      refine ⟨by kernel_rfl, W_exit ?_⟩
      refine blockX ?_
      refine thenN ?_
      refine W_seq ?_
      refine W_region ?_
      refine WR_val rfl (rn_load rfl (Ld.row1 hr2 (by kernel_rfl) rfl)) ?_
      refine WR_sk rfl (sk_store1 rfl rfl rfl rfl hr2 (by kernel_rfl) (by first | (simp only [List.length_replicate]; omega) | (simp only [iv_length]; omega) | (simp only [bv_length, List.length_set]; omega) | simp) (fun w912 hr2 ho912 => ?_))
      have hdef2 : (w912).heap[Dd]? = some (.deferred (some [])) := ((Kp.of_only ho912).block Dd (Array.getElem?_eq_some_iff.1 hdef).1 (by simp; omega)).trans hdef
      replace hdef := hdef2
      clear hdef2
      have hput := Soft.put (B := w.heap.size) (.deferred none) hdef (by omega) rfl
      have hr2n : row w912 g2 [.slice pu S.length cu] 51 := hr2
      have hr2p := hr2n.soft hput
      have hx2 := (hx.only ho912 (by omega)).soft hput
      have hu2 := (hu.only ho912 (by omega)).soft hput
      have hrl2 := (hrl.only ho912 (by omega)).soft hput
      have hk2 := ((⟨hkb⟩ : KpB [x] w W').only ho912 (by right; omega)).k.soft hput (Nat.le_refl _)
      refine WR_val rfl (rn_assign) ?_
      refine WR_nil ?_
      refine thenN ?_
      refine W_ret ?_
      refine ret_mark [_, _] Dd hdef ⟨⟨_, rfl, Ld.row1 hr2p (by kernel_rfl) rfl⟩, rfl, trivial⟩ ?_
      exact ⟨pu, cu, rfl, own_cap hu2, ⟨two_add h.two hk2 (fun b hb => .inr (by simp at hb; simp [hb])) (all_of hu2 hrl2 (by omega)) (fun b hb => (List.mem_range'_1.1 hb).1), hx2, hge, hni⟩, LoL.of_kp hk2 (fun b hb => .inl (by simp at hb; subst hb; exact ⟨hge, hni⟩))⟩
end
end Go.Proofs.Ytkkgahgpemepeaa
