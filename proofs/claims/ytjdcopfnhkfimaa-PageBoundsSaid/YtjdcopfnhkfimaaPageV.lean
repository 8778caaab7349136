/- A page behind acts. -/
import Derived.Test.YtjdcopfnhkfimaaPageU
namespace Go.Proofs.Ytjdcopfnhkfimaa
open Go Go.RowKit Coup

def playV (V : View) (R : List ActT) : View := R.foldl actV V
theorem playV_snoc (V : View) (R : List ActT) {i : Nat} {a : ActT} (h : R[i]? = some a) : playV V (R.take (i + 1)) = actV (playV V (R.take i)) a := by
  rw [List.take_add_one, h]; simp [playV, List.foldl_append]
theorem actV_kind {V : View} (hV : Good V) (a : ActT) (hb : a.b.length ≤ 700) : (actV V a).kind = V.kind := by
  have key : ∀ {e no slot P W k}, Post V a e no slot P W k → (actV V a).kind = V.kind := fun {e no slot P W k} h => by
    by_cases h0 : no2 a no W = 0
    · have := h.ok h0; rw [this.2.2.2.1]; exact h.kind
    · rw [(h.bad h0).2.2]
  by_cases h1 : a.kind = 1
  · exact key (post1 hV h1 hb)
  by_cases h2 : a.kind = 2
  · exact key (post2 hV h2 hb)
  by_cases h3 : a.kind = 3
  · exact key (post3 hV h3)
  by_cases h4 : a.kind = 4
  · exact key (post4 hV h4)
  rw [actV, if_neg h1, if_neg h2, if_neg h3, if_neg h4]
theorem playV_good : ∀ (R : List ActT) (V : View), Good V → (∀ (i : Nat) (a : ActT), R[i]? = some a → a.b.length ≤ 700) → Good (playV V R) ∧ (playV V R).kind = V.kind
  | [], V, hV, _ => ⟨hV, rfl⟩
  | a :: R, V, hV, h => by
    have ha := h 0 a rfl
    have := playV_good R (actV V a) (actV_good hV a ha) (fun i b hi => h (i + 1) b hi)
    exact ⟨this.1, this.2.trans (actV_kind hV a ha)⟩
theorem take_few {R : List ActT} (h : ∀ (i : Nat) (a : ActT), R[i]? = some a → a.b.length ≤ 700) (k : Nat) : ∀ (i : Nat) (a : ActT), (R.take k)[i]? = some a → a.b.length ≤ 700 := fun i a hi => by
  rw [List.getElem?_take] at hi
  split at hi
  · exact h i a hi
  · cases hi
set_option maxHeartbeats 1000000 in
theorem plays15 (k : Nat) (p : Option Addr) (n cp : Nat) (R : List ActT) (w : World) (hk : k ≤ 4) (h : ActsAt w p n R) (hR : ∀ (i : Nat) (a : ActT), R[i]? = some a → a.b.length ≤ 700) (hn : n ≤ 1000) :
    Calls Try.prog 15 [.int .i64 (k : Int), .slice p n cp].toArray w (Ret fun v w' => v = .tuple #[.agg (bv (bytesV (playV ⟨k, 0, []⟩ R))).toArray, .bool true] ∧ Below w.heap.size w w') := by
  have hB := Below.refl w.heap.size w
  have hml : maxLen = 9223372036854775807 := by decide
  have hN := fun w' => new7g k w' hk
  have hg0 := good_new hk
  have hl0 := bytes_len hg0
  have hlen := h.1
  obtain ⟨V0, hV0⟩ : ∃ V0, (⟨k, 0, []⟩ : View) = V0 := ⟨_, rfl⟩
  rw [hV0] at hN hl0 hg0 ⊢
  obtain ⟨Z, hzz, hzb, hzl⟩ := zeroQ
  refine calls_W (fn := Try.f15) (rs := [.cell 4 23, .tmp 5]) (n := 37) Try.func15 rfl rfl Try.ntmps15 (by kernel_rfl) rfl ?_
  refine W_seq ?_
  refine W_region ?_
  refine WR_mk rfl (mk_alloc (List.replicate 512 (Value.int .u8 0)) (by kernel_rfl) (fun g4 w4 hg4 hr4 hb4 => ?_))
  have ge_hB_g4 := Nat.le_trans hB.size hg4
  replace hB := hB.acc hb4
  rw [hzb] at hr4
  refine WR_val rfl (rn_assign) ?_
  refine WR_nil ?_
  refine thenN ?_
  refine W_seq ?_
  refine W_region ?_
  refine WR_val rfl (rn_move) ?_
  refine WR_ent rfl (rn_call (by kernel_rfl) rfl) (hN w4) ?_
  rintro _ w12 ⟨rfl, hb12⟩
  replace hr4 := hr4.new hb12
  replace hB := hB.acc hb12
  refine WR_val rfl (rn_move) ?_
  refine WR_val rfl (rn_extract rfl rfl) ?_
  refine WR_val rfl (rn_extract rfl rfl) ?_
  refine WR_mk rfl (mk_alloc (List.replicate 512 (Value.int .u8 0)) (by kernel_rfl) (fun g6 w6 hg6 hr6 hb6 => ?_))
  have ge_hB_g6 := Nat.le_trans hB.size hg6
  have lt_g4_g6 : g4 < g6 := Nat.lt_of_lt_of_le hr4.lt hg6
  replace hr4 := hr4.new hb6
  replace hB := hB.acc hb6
  rw [hzb] at hr6
  refine WR_sk rfl (sk_storeA 512 (bv (bytesV V0)) rfl rfl hr6 (by kernel_rfl) (by first | assumption | (simp; done) | (simp [bv_length, *]; done)) (by first | assumption | (simp; done) | (simp [bv_length, *]; done) | rfl) (by first | exact bv_one _ | assumption | (simp [Value.oneCell']; done)) (fun w901 hr6 ho901 => ?_))
  replace hr4 := hr4.only ho901 (Nat.ne_of_lt lt_g4_g6)
  replace hB := ho901.below hB ge_hB_g6
  refine WR_val rfl (rn_assign) ?_
  refine WR_nil ?_
  refine thenN ?_
  refine W_seq ?_
  refine W_region ?_
  refine WR_val rfl (rn_move) ?_
  refine WR_val rfl (rn_eql rfl rfl) ?_
  refine WR_val rfl (rn_assign) ?_
  refine WR_nil ?_
  refine thenN ?_
  refine W_seq ?_
  refine W_seq ?_
  refine W_region ?_
  refine WR_val rfl (rn_assign) ?_
  refine WR_nil ?_
  refine thenN ?_
  refine W_block ?_
  refine W_loop (α := Nat) 0 (fun i => [(9, .int .i64 (i : Nat)), (8, .bool true), (1, .slice p n cp), (4, .pointer (some ⟨g4, 0, none⟩)), (6, .pointer (some ⟨g6, 0, none⟩))]) (fun i w' => i ≤ n ∧ row w' g4 (bv Z) 23 ∧ row w' g6 (bv (bytesV (playV V0 (R.take i)))) 23 ∧ Below w.heap.size w w') (fun i => n - i)
    ⟨rfl, rfl, rfl, rfl, rfl, rfl⟩ ⟨Nat.zero_le _, hr4, hr6, hB⟩ ?_
  clear hr4 hr6 hB hl0
  have hw4 : w.heap.size ≤ g4 := by omega
  have hw6 : w.heap.size ≤ g6 := by omega
  rintro i f wr ⟨hi, hr4, hr6, hB⟩
  have hgi := (playV_good (R.take i) V0 hg0 (take_few hR i)).1
  have hli := bytes_len hgi
  refine W_seq ?_
  refine W_seq ?_
  refine W_region ?_
  refine WR_val rfl (rn_move) ?_
  refine WR_val rfl (rn_move) ?_
  refine WR_val rfl (rn_lenSl (e := 39) (sz := 4) (by kernel_rfl) rfl rfl) ?_
  refine WR_val rfl (rn_lss rfl rfl) ?_
  refine WR_val rfl (rn_move) ?_
  refine WR_part 21 rfl (fun hlt => ?_) (fun hlt => ?_)
  ·
    refine WR_yes rfl ?_
    refine WR_val rfl (rn_move) ?_
    refine WR_val rfl (rn_pick_t rfl) ?_
    refine WR_nil ?_
    refine thenN ?_
    refine W_t rfl ?_
    refine W_skip ?_
    refine thenN ?_
    refine W_seq ?_
    refine W_block ?_
    have hobt := h.get (i := i) (by omega)
    obtain ⟨a, hx⟩ := hobt
    have hobt := h.some (by omega)
    obtain ⟨g, o, rfl, hg⟩ := hobt
    have hobt := h.ld hx
    obtain ⟨q, qc, hq, hld⟩ := hobt
    have hD := fun w' h1 => do16 (playV V0 (R.take i)) a q qc w' hgi (hR i a hx) h1
    rw [← playV_snoc V0 R hx] at hD
    have hls := bytes_len (playV_good (R.take (i + 1)) V0 hg0 (take_few hR (i + 1))).1
    have hobt : ∃ Q1, bytesV (playV V0 (R.take i)) = Q1 := ⟨_, rfl⟩
    obtain ⟨Q1, hQ1⟩ := hobt
    have hobt : ∃ Q2, bytesV (playV V0 (R.take (i + 1))) = Q2 := ⟨_, rfl⟩
    obtain ⟨Q2, hQ2⟩ := hobt
    rw [hQ1] at hD hli hr6
    rw [hQ2] at hD hls
    refine W_draw' [g6] (by kernel_rfl) ?_
    intro w902 hb902 hS902
    replace hr4 := hr4.new hb902
    replace hr6 := hr6.new hb902
    replace hB := hB.acc hb902
    have hr4_d902 := hr4
    have hr6_d902 := hr6
    have hB_d902 := hB
    refine WA_take 1 (by kernel_rfl) rfl (fun _ _ => rn_move) ?_
    refine WA_take 2 (by kernel_rfl) rfl (fun _ _ => rn_move) ?_
    refine WA_take 3 (by kernel_rfl) rfl (fun _ _ => rn_indexSl (e := 39) (sz := 4) (by kernel_rfl) rfl rfl (i) (by omega) (by omega)) ?_
    refine WA_take 4 (by kernel_rfl) rfl (fun w' hS' => rn_load rfl ((hld _ (hB_d902.kpd hS' (by first | (simp; done) | (simp; omega) | (simp [*]; done)))).1)) ?_
    refine WA_one 0 (by kernel_rfl) ?_
    refine WO_val rfl rfl (rn_load rfl (Ld.rowA (k := 512) hr6 (by kernel_rfl) (by kernel_rfl) (by first | (simp; done) | (simp [bv_length, *]; done) | assumption))) hS902 ?_
    refine WA_one 5 (by kernel_rfl) ?_
    refine WO_ent rfl rfl (rn_call (by kernel_rfl) rfl) (hD w902 (hq.below hB (Nat.le_refl _))) ?_
    rintro _ w32 ⟨rfl, hb32⟩
    have hS904 := hS902.add0 hb32
    refine ⟨hS904, ?_⟩
    replace hr4 := hr4.new hb32
    replace hr6 := hr6.new hb32
    replace hB := hB.acc hb32
    refine WA_take 6 (by kernel_rfl) rfl (fun _ _ => rn_move) ?_
    refine WA_take 7 (by kernel_rfl) rfl (fun _ _ => rn_extract rfl rfl) ?_
    refine WA_take 8 (by kernel_rfl) rfl (fun _ _ => rn_extract rfl rfl) ?_
    refine WA_one 9 (by kernel_rfl) ?_
    refine WO_sk rfl rfl (sk_storeA 512 (bv Q2) rfl rfl hr6 (by kernel_rfl) (by first | assumption | (simp; done) | (simp [bv_length, *]; done)) (by first | assumption | (simp; done) | (simp [bv_length, *]; done) | rfl) (by first | exact bv_one _ | assumption | (simp [Value.oneCell']; done)) (fun w906 hr6 ho906 => ?_))
    have hS905 := hS904.add1 ho906 (by first | (left; omega) | (right; simp; done) | (right; simp; omega))
    refine ⟨hS905, ?_⟩
    replace hr4 := hr4.only ho906 (Nat.ne_of_lt lt_g4_g6)
    replace hB := ho906.below hB ge_hB_g6
    refine WA_take 10 (by kernel_rfl) rfl (fun _ _ => rn_assign) ?_
    refine WA_done (by kernel_rfl) ?_
    refine blockN ?_
    refine thenN ?_
    refine W_region ?_
    refine WR_val rfl (rn_move) ?_
    refine WR_val rfl (rn_add rfl rfl (Coup.w64 (by omega))) ?_
    refine WR_val rfl (rn_assign) ?_
    refine WR_nil ?_
    refine loopN ⟨i + 1, by omega, ⟨by go_num, rfl, rfl, rfl, rfl, rfl⟩, by omega, hr4, by rw [hQ2]; exact hr6, hB⟩
  ·
    obtain rfl : i = n := by omega
    rw [List.take_of_length_le (by omega)] at hr6 hli
    obtain ⟨Q1, hQ1⟩ : ∃ Q1, bytesV (playV V0 R) = Q1 := ⟨_, rfl⟩
    rw [hQ1] at hr6 hli ⊢
    refine WR_no rfl rfl ?_
    refine WR_val rfl (rn_pick_f rfl) ?_
    refine WR_nil ?_
    refine thenN ?_
    refine W_f rfl ?_
    refine W_exit ?_
    refine thenX ?_
    refine loopX ?_
    refine blockX ?_
    refine thenN ?_
    refine W_seq ?_
    refine W_region ?_
    refine WR_val rfl (rn_load rfl (Ld.rowA (k := 512) hr6 (by kernel_rfl) (by kernel_rfl) (by first | (simp; done) | (simp [bv_length, *]; done) | assumption))) ?_
    refine WR_val rfl (rn_move) ?_
    refine WR_sk rfl (sk_storeA 512 (bv Q1) rfl rfl hr4 (by kernel_rfl) (by first | assumption | (simp; done) | (simp [bv_length, *]; done)) (by first | assumption | (simp; done) | (simp [bv_length, *]; done) | rfl) (by first | exact bv_one _ | assumption | (simp [Value.oneCell']; done)) (fun w907 hr4 ho907 => ?_))
    replace hr6 := hr6.only ho907 (Nat.ne_of_gt lt_g4_g6)
    replace hB := ho907.below hB ge_hB_g4
    refine WR_val rfl (rn_assign) ?_
    refine WR_nil ?_
    refine thenN ?_
    refine W_ret ?_
    refine ret_ret [_, _] ⟨⟨_, rfl, Ld.rowA (k := 512) hr4 (by kernel_rfl) (by kernel_rfl) (by first | (simp; done) | (simp [bv_length, *]; done) | assumption)⟩, rfl, trivial⟩ ?_
    exact ⟨rfl, hB⟩
end Go.Proofs.Ytjdcopfnhkfimaa
