/- Heaps of what was lost, in memory: their own methods. -/
import Derived.Test.YtknjiohhlemeiaaFareF
namespace Go.Proofs.Ytknjiohhlemeiaa
open Go Go.RowKit Coup

def lc : List LossT → List Value
  | [] => []
  | x :: H => .int .u64 (x.1 : Int) :: .int .i64 (x.2 : Int) :: lc H
theorem lc_len : ∀ H, (lc H).length = H.length * 2
  | [] => rfl
  | x :: H => by simp only [lc, List.length_cons, lc_len H]; omega
theorem lc_append : ∀ a b, lc (a ++ b) = lc a ++ lc b
  | [], _ => rfl
  | x :: a, b => by simp [lc, lc_append a b]
theorem lc_get : ∀ (H : List LossT) (i : Nat) (x : LossT), H[i]? = some x → (lc H)[i * 2]? = some (.int .u64 (x.1 : Int)) ∧ (lc H)[i * 2 + 1]? = some (.int .i64 (x.2 : Int))
  | [], i, x, h => by simp at h
  | y :: H, 0, x, h => by simp at h; subst h; exact ⟨rfl, rfl⟩
  | y :: H, i + 1, x, h => by
    have := lc_get H i x (by simpa using h)
    rw [show (i + 1) * 2 = i * 2 + 1 + 1 by omega]
    simpa [lc] using this
theorem lc_set : ∀ (H : List LossT) (i : Nat) (x : LossT), i < H.length → splice (lc H) (i * 2) [.int .u64 (x.1 : Int), .int .i64 (x.2 : Int)] = lc (H.set i x)
  | [], i, x, h => by simp at h
  | y :: H, 0, x, h => rfl
  | y :: H, i + 1, x, h => by
    have := lc_set H i x (by simpa using h)
    rw [show (i + 1) * 2 = i * 2 + 1 + 1 by omega]
    simp only [splice, lc, List.set_cons_succ, List.length_cons, List.length_nil] at this ⊢
    rw [← this]
    simp
theorem lc_one (H : List LossT) : ∀ u ∈ lc H, u.oneCell' = true := by
  induction H with
  | nil => intro u h; simp [lc] at h
  | cons x H ih =>
    intro u h
    simp only [lc, List.mem_cons] at h
    rcases h with rfl | rfl | h
    · rfl
    · rfl
    · exact ih u h
theorem ld_loss {w : World} {g o n i : Nat} {H : List LossT} (h : SlAt w (some ⟨g, o, none⟩) n 2 (lc H)) (hi : i < H.length) : Ld Try.prog w 60 ⟨g, o + i * 2, none⟩ (.agg #[.int .u64 ((at0 H i).1 : Int), .int .i64 ((at0 H i).2 : Int)]) := by
  obtain ⟨h0, h1⟩ := lc_get H i _ (at0_get hi)
  have hl := lc_len H
  have := Ld.slN (P := Try.prog) (t := 60) (j := i * 2) (k := 2) h (by kernel_rfl) (by kernel_rfl) (by omega)
  obtain ⟨i0, e0⟩ := List.getElem?_eq_some_iff.1 h0
  obtain ⟨i1, e1⟩ := List.getElem?_eq_some_iff.1 h1
  rw [List.drop_eq_getElem_cons i0, List.drop_eq_getElem_cons i1, e0, e1] at this
  exact this
theorem len72 (p : Option Addr) (n c : Nat) (w : World) : Calls Try.prog 72 [.slice p n c].toArray w (Ret fun v w' => v = .int .i64 (n : Nat) ∧ w = w') := by
  refine calls_W (fn := Try.f72) (rs := [.tmp 2]) (n := 5) Try.func72 rfl rfl Try.ntmps72 (by kernel_rfl) rfl ?_
  refine W_seq ?_
  refine W_region ?_
  refine WR_val rfl (rn_assign) ?_
  refine WR_nil ?_
  refine thenN ?_
  refine W_seq ?_
  refine W_region ?_
  refine WR_val rfl (rn_move) ?_
  refine WR_val rfl (rn_lenSl (e := 60) (sz := 2) (by kernel_rfl) rfl rfl) ?_
  refine WR_val rfl (rn_assign) ?_
  refine WR_nil ?_
  refine thenN ?_
  refine W_ret ?_
  refine ret_ret [_] ⟨rfl, trivial⟩ ?_
  exact ⟨rfl, rfl⟩
theorem less73 (H : List LossT) (p : Option Addr) (n c i j : Nat) (w : World) (h : SlAt w p n 2 (lc H)) (hi : i < n) (hj : j < n) :
    Calls Try.prog 73 [.slice p n c, .int .i64 (i : Int), .int .i64 (j : Int)].toArray w (Ret fun v w' => v = .bool (decide (ltH (at0 H i) (at0 H j))) ∧ Below w.heap.size w w') := by
  have hB := Below.refl w.heap.size w
  have hl := h.len
  rw [lc_len] at hl
  obtain ⟨g, o, rfl, hg⟩ := h.some (by omega)
  obtain ⟨a0, a1⟩ := lc_get H i _ (at0_get (by omega))
  obtain ⟨b0, b1⟩ := lc_get H j _ (at0_get (by omega))
  refine calls_W (fn := Try.f73) (rs := [.tmp 6]) (n := 40) Try.func73 rfl rfl Try.ntmps73 (by kernel_rfl) rfl ?_
  refine W_seq ?_
  refine W_region ?_
  refine WR_val rfl (rn_assign) ?_
  refine WR_nil ?_
  refine thenN ?_
  refine W_seq ?_
  refine W_seq ?_
  refine W_draw' [] (by kernel_rfl) ?_
  intro w901 hb901 hS901
  replace hB := hB.acc hb901
  have hB_d901 := hB
  refine WA_take 0 (by kernel_rfl) rfl (fun _ _ => rn_move) ?_
  refine WA_take 1 (by kernel_rfl) rfl (fun _ _ => rn_move) ?_
  refine WA_take 2 (by kernel_rfl) rfl (fun _ _ => rn_indexSl (e := 60) (sz := 2) (by kernel_rfl) rfl rfl (i) (by omega) (by omega)) ?_
  refine WA_take 3 (by kernel_rfl) rfl (fun _ _ => rn_fieldAddr (off := 0) (by kernel_rfl) rfl) ?_
  refine WA_take 4 (by kernel_rfl) rfl (fun w' hS' => rn_load rfl (Ld.sl1 (off := o) (j := i * 2) (h.below (hB_d901.kpd hS' (by first | (simp; done) | (simp; omega))) (Nat.le_refl _)) (by kernel_rfl) a0)) ?_
  refine WA_take 5 (by kernel_rfl) rfl (fun _ _ => rn_move) ?_
  refine WA_take 6 (by kernel_rfl) rfl (fun _ _ => rn_move) ?_
  refine WA_take 7 (by kernel_rfl) rfl (fun _ _ => rn_indexSl (e := 60) (sz := 2) (by kernel_rfl) rfl rfl (j) (by omega) (by omega)) ?_
  refine WA_take 8 (by kernel_rfl) rfl (fun _ _ => rn_fieldAddr (off := 0) (by kernel_rfl) rfl) ?_
  refine WA_take 9 (by kernel_rfl) rfl (fun w' hS' => rn_load rfl (Ld.sl1 (off := o) (j := j * 2) (h.below (hB_d901.kpd hS' (by first | (simp; done) | (simp; omega))) (Nat.le_refl _)) (by kernel_rfl) b0)) ?_
  refine WA_take 10 (by kernel_rfl) rfl (fun _ _ => rn_neq rfl rfl) ?_
  refine WA_done (by kernel_rfl) ?_
  refine thenN ?_
  refine W_ifp rfl (fun hne => ?_) (fun hne => ?_)
  ·
    refine W_seq ?_
    refine W_draw' [] (by kernel_rfl) ?_
    intro w902 hb902 hS902
    replace hB := hB.acc hb902
    have hB_d902 := hB
    refine WA_take 0 (by kernel_rfl) rfl (fun _ _ => rn_move) ?_
    refine WA_take 1 (by kernel_rfl) rfl (fun _ _ => rn_move) ?_
    refine WA_take 2 (by kernel_rfl) rfl (fun _ _ => rn_indexSl (e := 60) (sz := 2) (by kernel_rfl) rfl rfl (i) (by omega) (by omega)) ?_
    refine WA_take 3 (by kernel_rfl) rfl (fun _ _ => rn_fieldAddr (off := 0) (by kernel_rfl) rfl) ?_
    refine WA_take 4 (by kernel_rfl) rfl (fun w' hS' => rn_load rfl (Ld.sl1 (off := o) (j := i * 2) (h.below (hB_d902.kpd hS' (by first | (simp; done) | (simp; omega))) (Nat.le_refl _)) (by kernel_rfl) a0)) ?_
    refine WA_take 5 (by kernel_rfl) rfl (fun _ _ => rn_move) ?_
    refine WA_take 6 (by kernel_rfl) rfl (fun _ _ => rn_move) ?_
    refine WA_take 7 (by kernel_rfl) rfl (fun _ _ => rn_indexSl (e := 60) (sz := 2) (by kernel_rfl) rfl rfl (j) (by omega) (by omega)) ?_
    refine WA_take 8 (by kernel_rfl) rfl (fun _ _ => rn_fieldAddr (off := 0) (by kernel_rfl) rfl) ?_
    refine WA_take 9 (by kernel_rfl) rfl (fun w' hS' => rn_load rfl (Ld.sl1 (off := o) (j := j * 2) (h.below (hB_d902.kpd hS' (by first | (simp; done) | (simp; omega))) (Nat.le_refl _)) (by kernel_rfl) b0)) ?_
    refine WA_take 10 (by kernel_rfl) rfl (fun _ _ => rn_gtr rfl rfl) ?_
    refine WA_take 11 (by kernel_rfl) rfl (fun _ _ => rn_assign) ?_
    refine WA_done (by kernel_rfl) ?_
    refine thenN ?_
    refine W_ret ?_
    refine thenR ?_
    refine ret_ret [_] ⟨rfl, trivial⟩ ?_
    refine ⟨vb ?_, hB⟩
    rw [decide_eq_decide]; unfold ltH; omega
  ·
    refine W_skip ?_
    refine thenN ?_
    refine W_seq ?_
    refine W_draw' [] (by kernel_rfl) ?_
    intro w903 hb903 hS903
    replace hB := hB.acc hb903
    have hB_d903 := hB
    refine WA_take 0 (by kernel_rfl) rfl (fun _ _ => rn_move) ?_
    refine WA_take 1 (by kernel_rfl) rfl (fun _ _ => rn_move) ?_
    refine WA_take 2 (by kernel_rfl) rfl (fun _ _ => rn_indexSl (e := 60) (sz := 2) (by kernel_rfl) rfl rfl (i) (by omega) (by omega)) ?_
    refine WA_take 3 (by kernel_rfl) rfl (fun _ _ => rn_fieldAddr (off := 1) (by kernel_rfl) rfl) ?_
    refine WA_take 4 (by kernel_rfl) rfl (fun w' hS' => rn_load rfl (Ld.sl1 (off := o) (j := i * 2 + 1) (h.below (hB_d903.kpd hS' (by first | (simp; done) | (simp; omega))) (Nat.le_refl _)) (by kernel_rfl) a1)) ?_
    refine WA_take 5 (by kernel_rfl) rfl (fun _ _ => rn_move) ?_
    refine WA_take 6 (by kernel_rfl) rfl (fun _ _ => rn_move) ?_
    refine WA_take 7 (by kernel_rfl) rfl (fun _ _ => rn_indexSl (e := 60) (sz := 2) (by kernel_rfl) rfl rfl (j) (by omega) (by omega)) ?_
    refine WA_take 8 (by kernel_rfl) rfl (fun _ _ => rn_fieldAddr (off := 1) (by kernel_rfl) rfl) ?_
    refine WA_take 9 (by kernel_rfl) rfl (fun w' hS' => rn_load rfl (Ld.sl1 (off := o) (j := j * 2 + 1) (h.below (hB_d903.kpd hS' (by first | (simp; done) | (simp; omega))) (Nat.le_refl _)) (by kernel_rfl) b1)) ?_
    refine WA_take 10 (by kernel_rfl) rfl (fun _ _ => rn_lss rfl rfl) ?_
    refine WA_take 11 (by kernel_rfl) rfl (fun _ _ => rn_assign) ?_
    refine WA_done (by kernel_rfl) ?_
    refine thenN ?_
    refine W_ret ?_
    refine ret_ret [_] ⟨rfl, trivial⟩ ?_
    refine ⟨vb ?_, hB⟩
    rw [decide_eq_decide]; unfold ltH; omega
theorem swap76 (H : List LossT) (g o n c i j B : Nat) (w : World) (h : ownsAt w B 60 2 (.slice (some ⟨g, o, none⟩) n c) n (lc H)) (hi : i < n) (hj : j < n) :
    Calls Try.prog 76 [.slice (some ⟨g, o, none⟩) n c, .int .i64 (i : Int), .int .i64 (j : Int)].toArray w (Ret fun _ w' => ownsAt w' B 60 2 (.slice (some ⟨g, o, none⟩) n c) n (lc (swapH H i j)) ∧ Kp [g] w w') := by
  have hB := Below.refl w.heap.size w
  have hl := h.1
  have hll := lc_len H
  have hown : OwnG w B 60 2 g o n c (lc H) := h
  refine calls_W (fn := Try.f76) (rs := []) (n := 20) Try.func76 rfl rfl Try.ntmps76 (by kernel_rfl) rfl ?_
  refine W_draw' [g] (by kernel_rfl) ?_
  intro w901 hb901 hS901
  replace hown := hown.new hb901
  have hown_d901 := hown
  refine WA_take 0 (by kernel_rfl) rfl (fun _ _ => rn_move) ?_
  refine WA_take 1 (by kernel_rfl) rfl (fun _ _ => rn_move) ?_
  refine WA_take 2 (by kernel_rfl) rfl (fun _ _ => rn_move) ?_
  refine WA_take 3 (by kernel_rfl) rfl (fun _ _ => rn_move) ?_
  refine WA_take 4 (by kernel_rfl) rfl (fun _ _ => rn_move) ?_
  refine WA_take 5 (by kernel_rfl) rfl (fun _ _ => rn_move) ?_
  refine WA_take 6 (by kernel_rfl) rfl (fun _ _ => rn_indexSl (e := 60) (sz := 2) (by kernel_rfl) rfl rfl (j) (by omega) (by omega)) ?_
  refine WA_take 8 (by kernel_rfl) rfl (fun _ _ => rn_move) ?_
  refine WA_take 9 (by kernel_rfl) rfl (fun _ _ => rn_move) ?_
  refine WA_take 10 (by kernel_rfl) rfl (fun _ _ => rn_indexSl (e := 60) (sz := 2) (by kernel_rfl) rfl rfl (i) (by omega) (by omega)) ?_
  refine WA_two 7 11 (by kernel_rfl) ?_ ?_
  ·
    refine WO_val rfl rfl (rn_load rfl (ld_loss hown.sl (by omega))) hS901 ?_
    refine WA_one 11 (by kernel_rfl) ?_
    refine WO_val rfl rfl (rn_load rfl (ld_loss hown.sl (by omega))) hS901 ?_
    refine WA_take 12 (by kernel_rfl) rfl (fun _ _ => rn_indexSl (e := 60) (sz := 2) (by kernel_rfl) rfl rfl (i) (by omega) (by omega)) ?_
    refine WA_one 13 (by kernel_rfl) ?_
    refine WO_sk rfl rfl (sk_storeO ([.int .u64 ((at0 H j).1 : Int), .int .i64 ((at0 H j).2 : Int)]) (i * 2) hown rfl rfl (by kernel_rfl) (by first | (simp only [iv_length, List.length_cons, List.length_nil]; omega) | omega | (simp; omega)) (by simp [Value.oneCell']) (fun w905 hown ho905 => ?_))
    have hS904 := hS901.add1 ho905 (by first | (left; omega) | (right; simp; done) | (right; simp; omega))
    refine ⟨hS904, ?_⟩
    rw [lc_set H i (at0 H j) (by omega)] at hown
    have hll2 := lc_len (H.set i (at0 H j))
    rw [List.length_set] at hll2
    refine WA_take 14 (by kernel_rfl) rfl (fun _ _ => rn_indexSl (e := 60) (sz := 2) (by kernel_rfl) rfl rfl (j) (by omega) (by omega)) ?_
    refine WA_one 15 (by kernel_rfl) ?_
    refine WO_sk rfl rfl (sk_storeO ([.int .u64 ((at0 H i).1 : Int), .int .i64 ((at0 H i).2 : Int)]) (j * 2) hown rfl rfl (by kernel_rfl) (by first | (simp only [iv_length, List.length_cons, List.length_nil]; omega) | omega | (simp; omega)) (by simp [Value.oneCell']) (fun w907 hown ho907 => ?_))
    have hS906 := hS904.add1 ho907 (by first | (left; omega) | (right; simp; done) | (right; simp; omega))
    refine ⟨hS906, ?_⟩
    rw [lc_set (H.set i (at0 H j)) j (at0 H i) (by rw [List.length_set]; omega)] at hown
    refine WA_done (by kernel_rfl) ?_
    refine ret_normal [] trivial ?_
    exact ⟨hown, (Kp.of_below hb901).trans (by assumption)⟩
  ·
    refine WO_val rfl rfl (rn_load rfl (ld_loss hown.sl (by omega))) hS901 ?_
    refine WA_one 7 (by kernel_rfl) ?_
    refine WO_val rfl rfl (rn_load rfl (ld_loss hown.sl (by omega))) hS901 ?_
    refine WA_take 12 (by kernel_rfl) rfl (fun _ _ => rn_indexSl (e := 60) (sz := 2) (by kernel_rfl) rfl rfl (i) (by omega) (by omega)) ?_
    refine WA_one 13 (by kernel_rfl) ?_
    refine WO_sk rfl rfl (sk_storeO ([.int .u64 ((at0 H j).1 : Int), .int .i64 ((at0 H j).2 : Int)]) (i * 2) hown rfl rfl (by kernel_rfl) (by first | (simp only [iv_length, List.length_cons, List.length_nil]; omega) | omega | (simp; omega)) (by simp [Value.oneCell']) (fun w911 hown ho911 => ?_))
    have hS910 := hS901.add1 ho911 (by first | (left; omega) | (right; simp; done) | (right; simp; omega))
    refine ⟨hS910, ?_⟩
    rw [lc_set H i (at0 H j) (by omega)] at hown
    have hll2 := lc_len (H.set i (at0 H j))
    rw [List.length_set] at hll2
    refine WA_take 14 (by kernel_rfl) rfl (fun _ _ => rn_indexSl (e := 60) (sz := 2) (by kernel_rfl) rfl rfl (j) (by omega) (by omega)) ?_
    refine WA_one 15 (by kernel_rfl) ?_
    refine WO_sk rfl rfl (sk_storeO ([.int .u64 ((at0 H i).1 : Int), .int .i64 ((at0 H i).2 : Int)]) (j * 2) hown rfl rfl (by kernel_rfl) (by first | (simp only [iv_length, List.length_cons, List.length_nil]; omega) | omega | (simp; omega)) (by simp [Value.oneCell']) (fun w913 hown ho913 => ?_))
    have hS912 := hS910.add1 ho913 (by first | (left; omega) | (right; simp; done) | (right; simp; omega))
    refine ⟨hS912, ?_⟩
    rw [lc_set (H.set i (at0 H j)) j (at0 H i) (by rw [List.length_set]; omega)] at hown
    refine WA_done (by kernel_rfl) ?_
    refine ret_normal [] trivial ?_
    exact ⟨hown, (Kp.of_below hb901).trans (by assumption)⟩
end Go.Proofs.Ytknjiohhlemeiaa
