/- An amount's text. -/
import Derived.Test.YtknjiohhlemeiaaFareN
namespace Go.Proofs.Ytknjiohhlemeiaa
open Go Go.RowKit Coup

def dg (d : Nat) : UInt8 := UInt8.ofNat (48 + d)
theorem dg_nat {d : Nat} (h : d < 10) : (dg d).toNat = 48 + d := by unfold dg; rw [UInt8.toNat_ofNat']; omega
/-- The first digits, from the last one on; a point behind the second one. -/
def bk : Nat → Nat → List UInt8
  | 0, _ => []
  | i + 1, n => bk i n ++ (if i = 2 then [46] else []) ++ [dg (n / 10 ^ i % 10)]
def lenF : Nat → Nat → Nat → Nat
  | 0, _, k => k
  | f + 1, m, k => if m / 10 ^ k = 0 then k else lenF f m (k + 1)
def IsLen (m least j : Nat) : Prop := least ≤ j ∧ m / 10 ^ j = 0 ∧ ∀ i, least ≤ i → i < j → m / 10 ^ i ≠ 0
theorem IsLen.uniq {m least a b : Nat} (ha : IsLen m least a) (hb : IsLen m least b) : a = b := by
  rcases Nat.lt_trichotomy a b with h | h | h
  · exact absurd ha.2.1 (hb.2.2 a ha.1 h)
  · exact h
  · exact absurd hb.2.1 (ha.2.2 b hb.1 h)
theorem lenF_is : ∀ (f m k least : Nat), least ≤ k → (∀ i, least ≤ i → i < k → m / 10 ^ i ≠ 0) → m / 10 ^ (k + f) = 0 → IsLen m least (lenF f m k)
  | 0, m, k, least, h1, h2, h3 => ⟨h1, h3, h2⟩
  | f + 1, m, k, least, h1, h2, h3 => by
    unfold lenF
    split
    · rename_i h; exact ⟨h1, h, h2⟩
    · rename_i h
      refine lenF_is f m (k + 1) least (by omega) (fun i hi hik => ?_) (by rw [show k + 1 + f = k + (f + 1) by omega]; exact h3)
      by_cases e : i = k
      · rw [e]; exact h
      · exact h2 i hi (by omega)
theorem small_pow {m : Nat} (h : m ≤ 1000000000000) (k : Nat) : m / 10 ^ (k + 13) = 0 := by
  refine Nat.div_eq_of_lt ?_
  have : (10 : Nat) ^ 13 ≤ 10 ^ (k + 13) := Nat.pow_le_pow_right (by omega) (by omega)
  omega
theorem len_is {m : Nat} (h : m ≤ 1000000000000) (least : Nat) : IsLen m least (lenF 13 m least) := lenF_is 13 m least least (Nat.le_refl _) (fun i h1 h2 => by omega) (small_pow h least)
def textP (n : Nat) : List UInt8 := (bk (lenF 13 n 3) n).reverse
def textZ (n : Int) : List UInt8 := if n < 0 then 45 :: textP (-n).toNat else textP n.toNat
def textS (n : Int) : List UInt8 := if mayM n = true then textZ n else []
theorem bk_len : ∀ (i n : Nat), (bk i n).length = if i ≤ 2 then i else i + 1
  | 0, _ => rfl
  | i + 1, n => by
    rw [bk, List.length_append, List.length_append, bk_len i n]
    by_cases h : i = 2
    · subst h; rfl
    · rw [if_neg h]
      simp only [List.length_nil, List.length_cons]
      split <;> split <;> omega
theorem div_step (n i : Nat) : n / 10 ^ i / 10 = n / 10 ^ (i + 1) := by rw [Nat.div_div_eq_div_mul, Nat.pow_succ]

theorem isB0 {w : World} {g : Nat} (hr : row w g [.pointer none, .slice none 0 0] 65) : Lib.IsBuilder 65 5 g g [] w := Or.inl ⟨Nat.le_refl _, .slice none 0 0, hr, w.ownsRow_nil g 5 1, by simp [Value.ownBlock]⟩
theorem bstring (B b : Nat) (l : List UInt8) (w : World) (h : Lib.IsBuilder 65 5 B b (bv l) w) (hBw : B ≤ w.heap.size) :
    Calls Try.prog 33 [.pointer (some ⟨b, 0, none⟩)].toArray w (Ret fun v w' => v = strOf l ∧ Below B w w') := calls_ret (Try.Builder_String_any B b l w h hBw)
set_option maxHeartbeats 1000000 in
theorem textPos (N : Nat) (w : World) (hN : N ≤ 1000000000000) : Calls Try.prog 20 [.int .i64 (N : Int)].toArray w (Ret fun v w' => v = strOf (textP N) ∧ Below w.heap.size w w') := by
  have hB := Below.refl w.heap.size w
  have hml : maxLen = 9223372036854775807 := by decide
  have hmay : mayM (N : Int) = true := mayM_iff.2 (by omega)
  refine calls_W (fn := Try.f20) (rs := [.tmp 2]) (n := 56) Try.func20 rfl rfl Try.ntmps20 (by kernel_rfl) rfl ?_
  refine W_seq ?_
  refine W_region ?_
  refine WR_val rfl (rn_assign) ?_
  refine WR_nil ?_
  refine thenN ?_
  refine W_seq ?_
  refine W_block ?_
  refine W_seq ?_
  refine W_region ?_
  refine WR_val rfl (rn_move) ?_
  refine WR_ent rfl (rn_call (by kernel_rfl) rfl) (may25 (N : Int) w) ?_
  rintro _ _ ⟨rfl, rfl⟩
  refine WR_val rfl (rn_not rfl) ?_
  refine WR_val rfl (rn_assign) ?_
  refine WR_nil ?_
  refine thenN ?_
  refine W_fnb rfl (hmay) ?_
  refine W_seq ?_
  refine W_region ?_
  refine WR_val rfl (rn_move) ?_
  refine WR_val rfl (rn_lss rfl rfl) ?_
  refine WR_val rfl (rn_assign) ?_
  refine WR_nil ?_
  refine thenN ?_
  refine W_fp rfl ((by omega)) ?_
  refine W_skip ?_
  refine blockN ?_
  refine thenN ?_
  refine W_seq ?_
  refine W_region ?_
  refine WR_val rfl (rn_assign) ?_
  refine WR_nil ?_
  refine thenN ?_
  refine W_seq ?_
  refine W_seq ?_
  refine W_region ?_
  refine WR_val rfl (rn_assign) ?_
  refine WR_nil ?_
  refine thenN ?_
  refine W_block ?_
  refine W_loop (α := Nat × Value) (0, .slice none 0 0) (fun k => [(4, .int .i64 (k.1 : Nat)), (3, k.2), (0, .int .i64 ((N / 10 ^ k.1 : Nat) : Int))])
    (fun k w' => k.1 ≤ 13 ∧ ownsAt w' w.heap.size 5 1 k.2 (bk k.1 N).length (bv (bk k.1 N)) ∧ (∀ j, 3 ≤ j → j < k.1 → N / 10 ^ j ≠ 0) ∧ Below w.heap.size w w') (fun k => 14 - k.1)
    ⟨rfl, rfl, vi (by simp), rfl⟩ ⟨Nat.zero_le _, ownsAt_nil _ _ _ _, fun j h1 h2 => by simp only at h2; omega, hB⟩ ?_
  rintro ⟨i, v3⟩ f wr ⟨hi, hv3, hall, hB⟩
  simp only at hi hv3 hall
  dsimp only
  have hbl := bk_len i N
  have hbl2 : (bk i N).length ≤ 14 := by rw [hbl]; split <;> omega
  have hXle : N / 10 ^ i ≤ N := Nat.div_le_self _ _
  obtain ⟨X, hX⟩ : ∃ X, X = N / 10 ^ i := ⟨_, rfl⟩
  rw [← hX] at hXle
  have h13 : 13 ≤ i → X = 0 := fun h => by rw [hX, show i = 0 + 13 by omega]; exact small_pow hN 0
  rw [← hX]
  refine W_seq ?_
  refine W_cut (fun b : Bool => [(23, .bool b), (4, .int .i64 (i : Nat)), (3, v3), (0, .int .i64 (X : Int))]) (fun b w' => (b = true → i < 3 ∨ 0 < X) ∧ (b = false → 3 ≤ i ∧ X = 0) ∧ wr = w') ?_ ?_
  ·
    refine W_region ?_
    refine WR_val rfl (rn_move) ?_
    refine WR_val rfl (rn_lss rfl rfl) ?_
    refine WR_val rfl (rn_move) ?_
    refine WR_part 20 rfl (fun h3 => ?_) (fun h3 => ?_)
    ·
      refine WR_no rfl rfl ?_
      refine WR_no rfl rfl ?_
      refine WR_val rfl (rn_pick_t rfl) ?_
      refine WR_nil ?_
      refine loopN ⟨true, ⟨rfl, rfl, rfl, rfl, rfl⟩, fun _ => Or.inl (by omega), fun h => (by cases h), rfl⟩
    ·
      refine WR_yes rfl ?_
      refine WR_val rfl (rn_move) ?_
      refine WR_yes rfl ?_
      refine WR_val rfl (rn_gtr rfl rfl) ?_
      refine WR_val rfl (rn_pick_f rfl) ?_
      refine WR_nil ?_
      refine loopN ⟨_, ⟨rfl, rfl, rfl, rfl, rfl⟩, fun h => Or.inr (by have := of_decide_eq_true h; omega), fun h => ⟨by omega, by have := of_decide_eq_false h; omega⟩, rfl⟩
  ·
    rintro b f2 _ ⟨hyes, hno, rfl⟩
    refine W_if rfl (fun hb => ?_) (fun hb => ?_)
    ·
      refine W_skip ?_
      refine thenN ?_
      refine W_seq ?_
      refine W_block ?_
      refine W_cut (fun v : Value => [(4, .int .i64 (i : Nat)), (3, v), (0, .int .i64 (X : Int))]) (fun v w' => ownsAt w' w.heap.size 5 1 v (bk i N ++ if i = 2 then [46] else []).length (bv (bk i N ++ if i = 2 then [46] else [])) ∧ Below w.heap.size w w') ?_ ?_
      ·
        refine W_seq ?_
        refine W_region ?_
        refine WR_val rfl (rn_move) ?_
        refine WR_val rfl (rn_eql rfl rfl) ?_
        refine WR_nil ?_
        refine thenN ?_
        refine W_ifp rfl (fun hi2 => ?_) (fun hi2 => ?_)
        ·
          refine W_region ?_
          refine WR_val rfl (rn_move) ?_
          refine WR_mk rfl (mk_one (e := 5) (.int .u8 46) ([.int .u8 46]) ([Value.int .u8 0]) 1 (by kernel_rfl) (by kernel_rfl) rfl rfl rfl ⟨by decide, by decide⟩ (fun g29 w29 hg29 hr29 hb29 => ?_))
          have ge_hB_g29 := Nat.le_trans hB.size hg29
          replace hB := hB.acc hb29
          have hs29 := hr29.slA (m := 1) (sz := 1) rfl (by unfold maxLen; omega)
          have hv3 := hv3.new hb29
          have hz3 := hB.size
          have sz_hB_30 := hB.size
          refine WR_mk rfl (mk_append (e := 5) (sz := 1) (bytes := 1) (z := Value.int .u8 0) (by kernel_rfl) rfl (by kernel_rfl) rfl (by decide) rfl hv3 rfl hs29 (by simp [Value.oneCell']) (by unfold maxLen; omega) (by omega) (fun hm0 => by omega) (fun v30 w30 hv30 hgr30 hfr30 => ?_))
          replace hB := hB.own hv3 hgr30 (by omega)
          refine WR_val rfl (rn_assign) ?_
          refine WR_nil ?_
          refine loopN ⟨v30, ⟨rfl, rfl, rfl, rfl⟩, ?_, hB⟩
          have hi2' : i = 2 := by omega
          rw [if_pos hi2', List.length_append, bv_append]
          exact hv30
        ·
          refine W_skip ?_
          refine loopN ⟨v3, ⟨rfl, rfl, rfl, rfl⟩, ?_, hB⟩
          rw [if_neg (by omega), List.append_nil]
          exact hv3
      ·
        rintro v4 f4 wz ⟨hv4, hB⟩
        have hbl3 : (bk i N ++ if i = 2 then [46] else []).length ≤ 15 := by rw [List.length_append]; split <;> simp <;> omega
        have hdg : IntKind.u8.wrap (48 + (X : Int) % 10) = ((dg (X % 10)).toNat : Int) := by rw [dg_nat (by omega), wu8 (by omega)]; omega
        refine W_seq ?_
        refine W_region ?_
        refine WR_val rfl (rn_move) ?_
        refine WR_val rfl (rn_move) ?_
        refine WR_val rfl (rn_rem0 rfl rfl (by omega) (by omega)) ?_
        refine WR_val rfl (rn_add rfl rfl (Coup.w64 (by omega))) ?_
        refine WR_val rfl (rn_conv (k := .u8) (by kernel_rfl) (by kernel_rfl) rfl hdg) ?_
        refine WR_mk rfl (mk_one (e := 5) (.int .u8 ((dg (X % 10)).toNat : Int)) ([.int .u8 ((dg (X % 10)).toNat : Int)]) ([Value.int .u8 0]) 1 (by kernel_rfl) (by kernel_rfl) rfl rfl rfl ⟨by decide, by decide⟩ (fun g36 w36 hg36 hr36 hb36 => ?_))
        have ge_hB_g36 := Nat.le_trans hB.size hg36
        replace hB := hB.acc hb36
        have hs36 := hr36.slA (m := 1) (sz := 1) rfl (by unfold maxLen; omega)
        have hv4 := hv4.new hb36
        have hz4 := hB.size
        have sz_hB_37 := hB.size
        refine WR_mk rfl (mk_append (e := 5) (sz := 1) (bytes := 1) (z := Value.int .u8 0) (by kernel_rfl) rfl (by kernel_rfl) rfl (by decide) rfl hv4 rfl hs36 (by simp [Value.oneCell']) (by unfold maxLen; omega) (by omega) (fun hm0 => by omega) (fun v37 w37 hv37 hgr37 hfr37 => ?_))
        replace hB := hB.own hv4 hgr37 (by omega)
        refine WR_val rfl (rn_assign) ?_
        refine WR_nil ?_
        refine thenN ?_
        refine W_region ?_
        refine WR_val rfl (rn_move) ?_
        refine WR_val rfl (rn_quo0 rfl rfl (by omega) (by omega)) ?_
        refine WR_val rfl (rn_assign) ?_
        refine WR_nil ?_
        refine blockN ?_
        refine thenN ?_
        refine W_region ?_
        refine WR_val rfl (rn_move) ?_
        refine WR_val rfl (rn_add rfl rfl (Coup.w64 (by omega))) ?_
        refine WR_val rfl (rn_assign) ?_
        refine WR_nil ?_
        have hi13 : i < 13 := by
          rcases hyes hb with h | h
          · omega
          · rcases Nat.lt_or_ge i 13 with h' | h'
            · exact h'
            · have := h13 h'; omega
        refine loopN ⟨(i + 1, v37), by simp only; omega, ⟨rfl, rfl, vi (by rw [← div_step, ← hX]; omega), rfl⟩, by simp only; omega, ?_, fun j h1 h2 => ?_, hB⟩
        · simp only
          rw [bk, List.length_append, bv_append, ← hX]
          exact hv37
        · simp only at h2
          by_cases e : j = i
          · rw [e, ← hX]
            rcases hyes hb with h | h <;> omega
          · exact hall j h1 (by omega)
    ·
      obtain ⟨h3i, hX0⟩ := hno hb
      have hlen : i = lenF 13 N 3 := IsLen.uniq ⟨h3i, by rw [← hX]; exact hX0, hall⟩ (len_is hN 3)
      have hT : textP N = (bk i N).reverse := by rw [textP, ← hlen]
      obtain ⟨M, hM⟩ : ∃ M, M = (bk i N).length := ⟨_, rfl⟩
      rw [← hM] at hv3 hbl2
      obtain ⟨g3, o3, c3, rfl, hg3, hgl3, hc3⟩ := hv3.form' (by rw [hM, hbl]; split <;> omega)
      have hs3 := hv3.sl
      refine W_exit ?_
      refine thenX ?_
      refine loopX ?_
      refine blockX ?_
      refine thenN ?_
      refine W_seq ?_
      refine W_region ?_
      refine WR_mk rfl (mk_alloc ([Value.pointer none, Value.slice none 0 0]) (by kernel_rfl) (fun g5 w5 hg5 hr5 hb5 => ?_))
      have ge_hB_g5 := Nat.le_trans hB.size hg5
      replace hB := hB.acc hb5
      refine WR_nil ?_
      refine thenN ?_
      refine W_seq ?_
      refine W_seq ?_
      refine W_region ?_
      refine WR_val rfl (rn_move) ?_
      refine WR_val rfl (rn_lenSl (e := 5) (sz := 1) (by kernel_rfl) rfl rfl) ?_
      refine WR_val rfl (rn_move) ?_
      refine WR_nil ?_
      refine thenN ?_
      refine W_block ?_
      have hs3 := hs3.new hb5
      have hR : (textP N).length = M := by rw [hT, List.length_reverse, hM]
      have hz5 := hr5.lt
      have hget : ∀ k, k < M → (textP N)[k]? = some ((bk i N).getD (M - 1 - k) 0) := fun k hk => by
        rw [hT, List.getElem?_reverse (by omega), ← hM, List.getD_eq_getElem?_getD, List.getElem?_eq_getElem (by omega)]; rfl
      have hw5 : w.heap.size ≤ g5 := by omega
      have hg35 : g3 < g5 := by omega
      refine W_loop (α := Nat) 0 (fun k => [(42, .int .i64 (k : Nat)), (41, .int .i64 (M : Nat)), (3, .slice (some ⟨g3, o3, none⟩) M c3), (5, .pointer (some ⟨g5, 0, none⟩))])
        (fun k w' => k ≤ M ∧ Lib.IsBuilder 65 5 g5 g5 (bv ((textP N).take k)) w' ∧ SlAt w' (some ⟨g3, o3, none⟩) M 1 (bv (bk i N)) ∧ g5 ≤ w'.heap.size ∧ Below w.heap.size w w') (fun k => M - k)
        ⟨rfl, rfl, rfl, rfl, rfl⟩ ⟨Nat.zero_le _, isB0 hr5, hs3, by omega, hB⟩ ?_
      clear hr5 hs3
      rintro k f5 wy ⟨hk, hbld, hs3, hz5, hB⟩
      refine W_seq ?_
      refine W_region ?_
      refine WR_val rfl (rn_lss rfl rfl) ?_
      refine WR_nil ?_
      refine thenN ?_
      refine W_seq ?_
      refine W_ifp rfl (fun hlt => ?_) (fun hlt => ?_)
      ·
        refine W_skip ?_
        refine thenN ?_
        refine W_seq ?_
        refine W_block ?_
        refine W_seq ?_
        refine W_region ?_
        refine WR_val rfl (rn_move) ?_
        refine WR_val rfl (rn_assign) ?_
        refine WR_nil ?_
        refine thenN ?_
        refine W_region ?_
        refine WR_val rfl (rn_move) ?_
        refine WR_val rfl (rn_move) ?_
        refine WR_val rfl (rn_lenSl (e := 5) (sz := 1) (by kernel_rfl) rfl rfl) ?_
        refine WR_val rfl (rn_sub rfl rfl (Coup.w64 (by omega))) ?_
        refine WR_val rfl (rn_move) ?_
        refine WR_val rfl (rn_sub rfl rfl (Coup.w64 (by omega))) ?_
        refine WR_val rfl (rn_indexSl1 (e := 5) (by kernel_rfl) rfl rfl (M - 1 - k) (by omega) (by omega)) ?_
        refine WR_val rfl (rn_load rfl (Ld.sl1 hs3 (by kernel_rfl) (bv_getD (bk i N) (M - 1 - k) (by omega)))) ?_
        refine WR_ent rfl (rn_call (by kernel_rfl) rfl) (writeByte32 g5 g5 (bv ((textP N).take k)) _ wy hbld (by rw [bv_length, List.length_take]; omega) hz5) ?_
        rintro _ w53 ⟨hbld', hb53⟩
        refine WR_nil ?_
        refine blockN ?_
        refine thenN ?_
        refine W_region ?_
        refine WR_val rfl (rn_add rfl rfl (Coup.w64 (by omega))) ?_
        refine WR_val rfl (rn_move) ?_
        refine WR_nil ?_
        refine loopN ⟨k + 1, by omega, ⟨rfl, rfl, rfl, rfl, rfl⟩, by omega, Or.inr ?_, hs3.blk (hb53.block g3 hg35) hb53.size, Nat.le_trans hz5 hb53.size, hB.trans (hb53.mono hw5)⟩
        rw [take_snoc (hget k (by omega)), bv_append]
        exact hbld'
      ·
        obtain rfl : k = M := by omega
        rw [List.take_of_length_le (by omega)] at hbld
        refine W_exit ?_
        refine thenX ?_
        refine loopX ?_
        refine blockX ?_
        refine thenN ?_
        refine W_seq ?_
        refine W_region ?_
        refine WR_ent rfl (rn_call (by kernel_rfl) rfl) (bstring g5 g5 (textP N) wy hbld hz5) ?_
        rintro _ w55 ⟨rfl, hb55⟩
        refine WR_val rfl (rn_assign) ?_
        refine WR_nil ?_
        refine thenN ?_
        refine W_ret ?_
        refine ret_ret [_] ⟨rfl, trivial⟩ ?_
        exact ⟨rfl, hB.trans (hb55.mono hw5)⟩
theorem textNeg (n : Int) (w : World) (h0 : -1000000000000 ≤ n) (h1 : n < 0) : Calls Try.prog 20 [.int .i64 n].toArray w (Ret fun v w' => v = strOf (45 :: textP (-n).toNat) ∧ Below w.heap.size w w') := by
  have hB := Below.refl w.heap.size w
  have hmay : mayM n = true := mayM_iff.2 (by omega)
  obtain ⟨N, hN⟩ : ∃ N : Nat, 0 - n = N := ⟨(0 - n).toNat, by omega⟩
  have hTl : (textP N).length ≤ 100 := by
    have h1 := (len_is (m := N) (by omega) 3)
    have h2 : lenF 13 N 3 ≤ 13 := by
      rcases Nat.lt_or_ge 13 (lenF 13 N 3) with h | h
      · exact absurd (small_pow (m := N) (by omega) 0) (h1.2.2 13 (by omega) h)
      · exact h
    rw [textP, List.length_reverse, bk_len]; split <;> omega
  refine calls_W (fn := Try.f20) (rs := [.tmp 2]) (n := 56) Try.func20 rfl rfl Try.ntmps20 (by kernel_rfl) rfl ?_
  refine W_seq ?_
  refine W_region ?_
  refine WR_val rfl (rn_assign) ?_
  refine WR_nil ?_
  refine thenN ?_
  refine W_seq ?_
  refine W_block ?_
  refine W_seq ?_
  refine W_region ?_
  refine WR_val rfl (rn_move) ?_
  refine WR_ent rfl (rn_call (by kernel_rfl) rfl) (may25 n w) ?_
  rintro _ _ ⟨rfl, rfl⟩
  refine WR_val rfl (rn_not rfl) ?_
  refine WR_val rfl (rn_assign) ?_
  refine WR_nil ?_
  refine thenN ?_
  refine W_fnb rfl (hmay) ?_
  refine W_seq ?_
  refine W_region ?_
  refine WR_val rfl (rn_move) ?_
  refine WR_val rfl (rn_lss rfl rfl) ?_
  refine WR_val rfl (rn_assign) ?_
  refine WR_nil ?_
  refine thenN ?_
  refine W_tp rfl ((by omega)) ?_
  refine W_seq ?_
  refine W_region ?_
  refine WR_val rfl (rn_move) ?_
  refine WR_val rfl (rn_neg rfl (show IntKind.i64.wrap (0 - n) = (N : Int) by rw [w64 (by omega)]; exact hN)) ?_
  refine WR_ent rfl (rn_call (by kernel_rfl) rfl) (textPos N w (by omega)) ?_
  rintro _ w16 ⟨rfl, hb16⟩
  replace hB := hB.acc hb16
  refine WR_val rfl (rn_adds (a := [45]) (b := textP N) rfl rfl (by simp; omega)) ?_
  refine WR_val rfl (rn_assign) ?_
  refine WR_nil ?_
  refine thenN ?_
  refine W_ret ?_
  refine blockR ?_
  refine thenR ?_
  refine ret_ret [_] ⟨rfl, trivial⟩ ?_
  refine ⟨?_, hB⟩
  rw [show (-n).toNat = N by omega]
  rfl
theorem textNo (n : Int) (w : World) (h : mayM n = false) : Calls Try.prog 20 [.int .i64 n].toArray w (Ret fun v w' => v = strOf [] ∧ Below w.heap.size w w') := by
  have hB := Below.refl w.heap.size w
  refine calls_W (fn := Try.f20) (rs := [.tmp 2]) (n := 56) Try.func20 rfl rfl Try.ntmps20 (by kernel_rfl) rfl ?_
  refine W_seq ?_
  refine W_region ?_
  refine WR_val rfl (rn_assign) ?_
  refine WR_nil ?_
  refine thenN ?_
  refine W_seq ?_
  refine W_block ?_
  refine W_seq ?_
  refine W_region ?_
  refine WR_val rfl (rn_move) ?_
  refine WR_ent rfl (rn_call (by kernel_rfl) rfl) (may25 n w) ?_
  rintro _ _ ⟨rfl, rfl⟩
  refine WR_val rfl (rn_not rfl) ?_
  refine WR_val rfl (rn_assign) ?_
  refine WR_nil ?_
  refine thenN ?_
  refine W_tnb rfl (h) ?_
  refine W_seq ?_
  refine W_region ?_
  refine WR_val rfl (rn_assign) ?_
  refine WR_nil ?_
  refine thenN ?_
  refine W_ret ?_
  refine blockR ?_
  refine thenR ?_
  refine ret_ret [_] ⟨rfl, trivial⟩ ?_
  exact ⟨rfl, hB⟩
theorem text20 (n : Int) (w : World) (hn : -9223372036854775808 ≤ n ∧ n ≤ 9223372036854775807) : Calls Try.prog 20 [.int .i64 n].toArray w (Ret fun v w' => v = strOf (textS n) ∧ Below w.heap.size w w') := by
  by_cases hm : mayM n = true
  · have hb := mayM_iff.1 hm
    rw [textS, if_pos hm, textZ]
    by_cases hneg : n < 0
    · rw [if_pos hneg]
      exact textNeg n w hb.1 hneg
    · rw [if_neg hneg]
      obtain ⟨N, rfl⟩ : ∃ N : Nat, n = N := ⟨n.toNat, by omega⟩
      rw [Int.toNat_natCast]
      exact textPos N w (by omega)
  · rw [textS, if_neg hm]
    exact textNo n w (by simpa using hm)
end Go.Proofs.Ytknjiohhlemeiaa
