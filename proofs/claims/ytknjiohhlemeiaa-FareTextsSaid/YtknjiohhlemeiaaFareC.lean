/- Sums, and weights together; lists that are the same. -/
import Derived.Test.YtknjiohhlemeiaaFareB
namespace Go.Proofs.Ytknjiohhlemeiaa
open Go Go.RowKit Coup

def allM (l : List Int) : Bool := l.all mayM
theorem allM_iff {l : List Int} : allM l = true ↔ ∀ x ∈ l, -1000000000000 ≤ x ∧ x ≤ 1000000000000 := by simp [allM, mayM_iff]
theorem allM_not {l : List Int} {i : Nat} {x : Int} (h : l[i]? = some x) (hx : mayM x = false) : allM l = false := by
  cases he : allM l with
  | false => rfl
  | true => have := List.all_eq_true.1 he x (List.mem_of_getElem? h); rw [hx] at this; cases this
theorem allM_snoc {l : List Int} {x : Int} (h : allM l = true) (hx : mayM x = true) : allM (l ++ [x]) = true := by
  simp only [allM, List.all_append, Bool.and_eq_true] at h ⊢
  exact ⟨h, by simp [hx]⟩
theorem allM_sum {l : List Int} (h : allM l = true) : -(l.length * 1000000000000 : Int) ≤ sumI l ∧ sumI l ≤ l.length * 1000000000000 := by
  rw [allM_iff] at h
  have h1 := sumI_le l 1000000000000 fun x hx => (h x hx).2
  have h2 := sumI_ge l (-1000000000000) fun x hx => (h x hx).1
  omega
def sumV (l : List Int) : Int × Int := if 1000 < l.length then (0, 3) else if allM l = true ∧ mayM (sumI l) = true then (sumI l, 0) else (0, 14)
theorem sum24 (p : Option Addr) (n cp : Nat) (l : List Int) (w : World) (h : SlAt w p n 1 (iv l)) : Calls Try.prog 24 [.slice p n cp].toArray w (Ret fun v w' => v = .tuple #[.int .i64 (sumV l).1, .int .i64 (sumV l).2] ∧ w = w') := by
  have hl : l.length = n := by simpa [iv_length] using h.len
  have hmax := h.max
  have hml : maxLen = 9223372036854775807 := by decide
  refine calls_W (fn := Try.f24) (rs := [.tmp 2, .tmp 3]) (n := 27) Try.func24 rfl rfl Try.ntmps24 (by kernel_rfl) rfl ?_
  refine W_seq ?_
  refine W_region ?_
  refine WR_val rfl (rn_assign) ?_
  refine WR_val rfl (rn_assign) ?_
  refine WR_nil ?_
  refine thenN ?_
  refine W_seq ?_
  refine W_seq ?_
  refine W_region ?_
  refine WR_val rfl (rn_move) ?_
  refine WR_val rfl (rn_lenSl (e := 2) (sz := 1) (by kernel_rfl) rfl rfl) ?_
  refine WR_val rfl (rn_gtr rfl rfl) ?_
  refine WR_nil ?_
  refine thenN ?_
  refine W_ifp rfl (fun hbig => ?_) (fun hbig => ?_)
  ·
    refine W_seq ?_
    refine W_region ?_
    refine WR_val rfl (rn_assign) ?_
    refine WR_val rfl (rn_assign) ?_
    refine WR_nil ?_
    refine thenN ?_
    refine W_ret ?_
    refine thenR ?_
    refine ret_ret [_, _] ⟨rfl, rfl, trivial⟩ ?_
    exact ⟨by rw [sumV, if_pos (by omega)]; rfl, rfl⟩
  ·
    have hV : sumV l = if allM l = true ∧ mayM (sumI l) = true then (sumI l, 0) else (0, 14) := by rw [sumV, if_neg (by omega)]
    refine W_skip ?_
    refine thenN ?_
    refine W_seq ?_
    refine W_region ?_
    refine WR_val rfl (rn_assign) ?_
    refine WR_nil ?_
    refine thenN ?_
    refine W_seq ?_
    refine W_seq ?_
    refine W_region ?_
    refine WR_val rfl (rn_move) ?_
    refine WR_val rfl (rn_lenSl (e := 2) (sz := 1) (by kernel_rfl) rfl rfl) ?_
    refine WR_val rfl (rn_move) ?_
    refine WR_nil ?_
    refine thenN ?_
    refine W_block ?_
    refine W_loop (α := Nat) 0 (fun i => [(12, .int .i64 (i : Nat)), (11, .int .i64 (n : Nat)), (10, .slice p n cp), (4, .int .i64 (sumI (l.take i)))]) (fun i w' => i ≤ n ∧ allM (l.take i) = true ∧ w = w') (fun i => n - i)
      ⟨rfl, rfl, rfl, rfl, rfl⟩ ⟨Nat.zero_le _, rfl, rfl⟩ ?_
    rintro i f _ ⟨hi, hok, rfl⟩
    have hsb := allM_sum hok
    rw [List.length_take, hl, Nat.min_eq_left hi] at hsb
    refine W_seq ?_
    refine W_region ?_
    refine WR_val rfl (rn_lss rfl rfl) ?_
    refine WR_nil ?_
    refine thenN ?_
    refine W_seq ?_
    refine W_ifp rfl (fun hlt => ?_) (fun hlt => ?_)
    ·
      refine W_skip ?_
      refine thenN ?_
      refine W_seq ?_
      refine W_block ?_
      refine W_seq ?_
      have hobt := slAt_getI h (i := i) (by omega)
      obtain ⟨x, hx⟩ := hobt
      have hobt := h.some (by omega)
      obtain ⟨g, o, rfl, hg⟩ := hobt
      refine W_region ?_
      refine WR_val rfl (rn_indexSl1 (e := 2) (by kernel_rfl) rfl rfl (i) (by omega) (by omega)) ?_
      refine WR_val rfl (rn_load rfl (Ld.sl1 h (by kernel_rfl) (iv_some hx))) ?_
      refine WR_val rfl (rn_assign) ?_
      refine WR_nil ?_
      refine thenN ?_
      refine W_seq ?_
      refine W_seq ?_
      refine W_region ?_
      refine WR_val rfl (rn_move) ?_
      refine WR_ent rfl (rn_call (by kernel_rfl) rfl) (may25 x w) ?_
      rintro _ _ ⟨rfl, rfl⟩
      refine WR_val rfl (rn_not rfl) ?_
      refine WR_nil ?_
      refine thenN ?_
      refine W_ifnb rfl (fun hm => ?_) (fun hm => ?_)
      ·
        refine W_seq ?_
        refine W_region ?_
        refine WR_val rfl (rn_assign) ?_
        refine WR_val rfl (rn_assign) ?_
        refine WR_nil ?_
        refine thenN ?_
        refine W_ret ?_
        refine thenR ?_
        refine blockR ?_
        refine thenR ?_
        refine loopR ?_
        refine blockR ?_
        refine thenR ?_
        refine ret_ret [_, _] ⟨rfl, rfl, trivial⟩ ?_
        rw [hV, if_neg (by rw [allM_not hx hm]; simp)]
        exact ⟨rfl, rfl⟩
      ·
        have hxb := mayM_iff.1 hm
        refine W_skip ?_
        refine thenN ?_
        refine W_region ?_
        refine WR_val rfl (rn_move) ?_
        refine WR_val rfl (rn_move) ?_
        refine WR_val rfl (rn_add rfl rfl (Coup.w64 (by omega))) ?_
        refine WR_val rfl (rn_assign) ?_
        refine WR_nil ?_
        refine blockN ?_
        refine thenN ?_
        refine W_region ?_
        refine WR_val rfl (rn_add rfl rfl (Coup.w64 (by omega))) ?_
        refine WR_val rfl (rn_move) ?_
        refine WR_nil ?_
        refine loopN ⟨i + 1, by omega, ⟨rfl, rfl, rfl, vi (by rw [take_snoc hx, sumI_snoc]), rfl⟩, by omega, by rw [take_snoc hx]; exact allM_snoc hok hm, rfl⟩
    ·
      rw [List.take_of_length_le (by omega)] at *
      refine W_exit ?_
      refine thenX ?_
      refine loopX ?_
      refine blockX ?_
      refine thenN ?_
      refine W_seq ?_
      refine W_seq ?_
      refine W_region ?_
      refine WR_val rfl (rn_move) ?_
      refine WR_ent rfl (rn_call (by kernel_rfl) rfl) (may25 (sumI l) w) ?_
      rintro _ _ ⟨rfl, rfl⟩
      refine WR_val rfl (rn_not rfl) ?_
      refine WR_nil ?_
      refine thenN ?_
      refine W_ifnb rfl (fun hm => ?_) (fun hm => ?_)
      ·
        refine W_seq ?_
        refine W_region ?_
        refine WR_val rfl (rn_assign) ?_
        refine WR_val rfl (rn_assign) ?_
        refine WR_nil ?_
        refine thenN ?_
        refine W_ret ?_
        refine thenR ?_
        refine ret_ret [_, _] ⟨rfl, rfl, trivial⟩ ?_
        rw [hV, if_neg (by rw [hm]; simp)]
        exact ⟨rfl, rfl⟩
      ·
        rw [hV, if_pos ⟨hok, hm⟩]
        refine W_skip ?_
        refine thenN ?_
        refine W_seq ?_
        refine W_region ?_
        refine WR_val rfl (rn_move) ?_
        refine WR_val rfl (rn_assign) ?_
        refine WR_val rfl (rn_assign) ?_
        refine WR_nil ?_
        refine thenN ?_
        refine W_ret ?_
        refine ret_ret [_, _] ⟨rfl, rfl, trivial⟩ ?_
        exact ⟨rfl, rfl⟩
theorem okW_sum {l : List Int} (h : okW l = true) : 0 ≤ sumI l ∧ sumI l ≤ l.length * 1000000000000 := by
  rw [okW_iff] at h
  have h1 := sumI_le l 1000000000000 fun x hx => (h x hx).2
  have h2 := sumI_ge l 0 fun x hx => (h x hx).1
  omega
/-- What all the weights come to: 0 where they may not be. -/
def allV (l : List Int) : Int × Int := if 64 < l.length then (0, 3) else if okW l = true ∧ sumI l ≠ 0 then (sumI l, 0) else (0, 2)
theorem all26 (p : Option Addr) (n cp : Nat) (l : List Int) (w : World) (h : SlAt w p n 1 (iv l)) : Calls Try.prog 26 [.slice p n cp].toArray w (Ret fun v w' => v = .tuple #[.int .u64 (allV l).1, .int .i64 (allV l).2] ∧ w = w') := by
  have hl : l.length = n := by simpa [iv_length] using h.len
  have hmax := h.max
  have hml : maxLen = 9223372036854775807 := by decide
  refine calls_W (fn := Try.f26) (rs := [.tmp 2, .tmp 3]) (n := 27) Try.func26 rfl rfl Try.ntmps26 (by kernel_rfl) rfl ?_
  refine W_seq ?_
  refine W_region ?_
  refine WR_val rfl (rn_assign) ?_
  refine WR_val rfl (rn_assign) ?_
  refine WR_nil ?_
  refine thenN ?_
  refine W_seq ?_
  refine W_seq ?_
  refine W_region ?_
  refine WR_val rfl (rn_move) ?_
  refine WR_val rfl (rn_lenSl (e := 2) (sz := 1) (by kernel_rfl) rfl rfl) ?_
  refine WR_val rfl (rn_gtr rfl rfl) ?_
  refine WR_nil ?_
  refine thenN ?_
  refine W_ifp rfl (fun hbig => ?_) (fun hbig => ?_)
  ·
    refine W_seq ?_
    refine W_region ?_
    refine WR_val rfl (rn_assign) ?_
    refine WR_val rfl (rn_assign) ?_
    refine WR_nil ?_
    refine thenN ?_
    refine W_ret ?_
    refine thenR ?_
    refine ret_ret [_, _] ⟨rfl, rfl, trivial⟩ ?_
    exact ⟨by rw [allV, if_pos (by omega)]; rfl, rfl⟩
  ·
    have hV : allV l = if okW l = true ∧ sumI l ≠ 0 then (sumI l, 0) else (0, 2) := by rw [allV, if_neg (by omega)]
    refine W_skip ?_
    refine thenN ?_
    refine W_seq ?_
    refine W_region ?_
    refine WR_val rfl (rn_assign) ?_
    refine WR_nil ?_
    refine thenN ?_
    refine W_seq ?_
    refine W_seq ?_
    refine W_region ?_
    refine WR_val rfl (rn_move) ?_
    refine WR_val rfl (rn_lenSl (e := 2) (sz := 1) (by kernel_rfl) rfl rfl) ?_
    refine WR_val rfl (rn_move) ?_
    refine WR_nil ?_
    refine thenN ?_
    refine W_block ?_
    refine W_loop (α := Nat) 0 (fun i => [(12, .int .i64 (i : Nat)), (11, .int .i64 (n : Nat)), (10, .slice p n cp), (4, .int .u64 (sumI (l.take i)))]) (fun i w' => i ≤ n ∧ okW (l.take i) = true ∧ w = w') (fun i => n - i)
      ⟨rfl, rfl, rfl, rfl, rfl⟩ ⟨Nat.zero_le _, rfl, rfl⟩ ?_
    rintro i f _ ⟨hi, hok, rfl⟩
    have hsb := okW_sum hok
    rw [List.length_take, hl, Nat.min_eq_left hi] at hsb
    refine W_seq ?_
    refine W_region ?_
    refine WR_val rfl (rn_lss rfl rfl) ?_
    refine WR_nil ?_
    refine thenN ?_
    refine W_seq ?_
    refine W_ifp rfl (fun hlt => ?_) (fun hlt => ?_)
    ·
      refine W_skip ?_
      refine thenN ?_
      refine W_seq ?_
      refine W_block ?_
      refine W_seq ?_
      have hobt := slAt_getI h (i := i) (by omega)
      obtain ⟨x, hx⟩ := hobt
      have hobt := h.some (by omega)
      obtain ⟨g, o, rfl, hg⟩ := hobt
      refine W_region ?_
      refine WR_val rfl (rn_indexSl1 (e := 2) (by kernel_rfl) rfl rfl (i) (by omega) (by omega)) ?_
      refine WR_val rfl (rn_load rfl (Ld.sl1 h (by kernel_rfl) (iv_some hx))) ?_
      refine WR_val rfl (rn_assign) ?_
      refine WR_nil ?_
      refine thenN ?_
      refine W_seq ?_
      refine W_seq ?_
      refine W_region ?_
      refine WR_val rfl (rn_move) ?_
      refine WR_ent rfl (rn_call (by kernel_rfl) rfl) (some27 x w) ?_
      rintro _ _ ⟨rfl, rfl⟩
      refine WR_val rfl (rn_not rfl) ?_
      refine WR_nil ?_
      refine thenN ?_
      refine W_ifnb rfl (fun hm => ?_) (fun hm => ?_)
      ·
        refine W_seq ?_
        refine W_region ?_
        refine WR_val rfl (rn_assign) ?_
        refine WR_val rfl (rn_assign) ?_
        refine WR_nil ?_
        refine thenN ?_
        refine W_ret ?_
        refine thenR ?_
        refine blockR ?_
        refine thenR ?_
        refine loopR ?_
        refine blockR ?_
        refine thenR ?_
        refine ret_ret [_, _] ⟨rfl, rfl, trivial⟩ ?_
        rw [hV, if_neg (by rw [okW_not hx (someM_not.1 hm)]; simp)]
        exact ⟨rfl, rfl⟩
      ·
        have hxb := someM_iff.1 hm
        refine W_skip ?_
        refine thenN ?_
        refine W_region ?_
        refine WR_val rfl (rn_move) ?_
        refine WR_val rfl (rn_move) ?_
        refine WR_val rfl (rn_conv (k := .u64) (by kernel_rfl) (by kernel_rfl) rfl (wu64 (by omega))) ?_
        refine WR_val rfl (rn_add rfl rfl (wu64 (by omega))) ?_
        refine WR_val rfl (rn_assign) ?_
        refine WR_nil ?_
        refine blockN ?_
        refine thenN ?_
        refine W_region ?_
        refine WR_val rfl (rn_add rfl rfl (Coup.w64 (by omega))) ?_
        refine WR_val rfl (rn_move) ?_
        refine WR_nil ?_
        refine loopN ⟨i + 1, by omega, ⟨rfl, rfl, rfl, vi (by rw [take_snoc hx, sumI_snoc]), rfl⟩, by omega, by rw [take_snoc hx]; exact okW_snoc hok hxb, rfl⟩
    ·
      rw [List.take_of_length_le (by omega)] at *
      refine W_exit ?_
      refine thenX ?_
      refine loopX ?_
      refine blockX ?_
      refine thenN ?_
      refine W_seq ?_
      refine W_seq ?_
      refine W_region ?_
      refine WR_val rfl (rn_move) ?_
      refine WR_val rfl (rn_eql rfl rfl) ?_
      refine WR_nil ?_
      refine thenN ?_
      refine W_ifp rfl (fun hm => ?_) (fun hm => ?_)
      ·
        refine W_seq ?_
        refine W_region ?_
        refine WR_val rfl (rn_assign) ?_
        refine WR_val rfl (rn_assign) ?_
        refine WR_nil ?_
        refine thenN ?_
        refine W_ret ?_
        refine thenR ?_
        refine ret_ret [_, _] ⟨rfl, rfl, trivial⟩ ?_
        rw [hV, if_neg (fun q => q.2 hm)]
        exact ⟨rfl, rfl⟩
      ·
        rw [hV, if_pos ⟨hok, hm⟩]
        refine W_skip ?_
        refine thenN ?_
        refine W_seq ?_
        refine W_region ?_
        refine WR_val rfl (rn_move) ?_
        refine WR_val rfl (rn_assign) ?_
        refine WR_val rfl (rn_assign) ?_
        refine WR_nil ?_
        refine thenN ?_
        refine W_ret ?_
        refine ret_ret [_, _] ⟨rfl, rfl, trivial⟩ ?_
        exact ⟨rfl, rfl⟩
theorem same14 (p : Option Addr) (n cp : Nat) (l : List Int) (p2 : Option Addr) (n2 cp2 : Nat) (l2 : List Int) (w : World) (h : SlAt w p n 1 (iv l)) (h2 : SlAt w p2 n2 1 (iv l2)) :
    Calls Try.prog 14 [.slice p n cp, .slice p2 n2 cp2].toArray w (Ret fun v w' => v = .bool (decide (l = l2)) ∧ Below w.heap.size w w') := by
  have hB := Below.refl w.heap.size w
  have hl : l.length = n := by simpa [iv_length] using h.len
  have hl2 : l2.length = n2 := by simpa [iv_length] using h2.len
  have hmax := h.max
  have hml : maxLen = 9223372036854775807 := by decide
  refine calls_W (fn := Try.f14) (rs := [.tmp 4]) (n := 26) Try.func14 rfl rfl Try.ntmps14 (by kernel_rfl) rfl ?_
  refine W_seq ?_
  refine W_region ?_
  refine WR_val rfl (rn_assign) ?_
  refine WR_nil ?_
  refine thenN ?_
  refine W_seq ?_
  refine W_seq ?_
  refine W_region ?_
  refine WR_val rfl (rn_move) ?_
  refine WR_val rfl (rn_lenSl (e := 2) (sz := 1) (by kernel_rfl) rfl rfl) ?_
  refine WR_val rfl (rn_move) ?_
  refine WR_val rfl (rn_lenSl (e := 2) (sz := 1) (by kernel_rfl) rfl rfl) ?_
  refine WR_val rfl (rn_neq rfl rfl) ?_
  refine WR_nil ?_
  refine thenN ?_
  refine W_ifp rfl (fun hne => ?_) (fun hne => ?_)
  ·
    refine W_seq ?_
    refine W_region ?_
    refine WR_val rfl (rn_assign) ?_
    refine WR_nil ?_
    refine thenN ?_
    refine W_ret ?_
    refine thenR ?_
    refine ret_ret [_] ⟨rfl, trivial⟩ ?_
    exact ⟨vb (by rw [decide_eq_false]; rintro rfl; omega), hB⟩
  ·
    refine W_skip ?_
    refine thenN ?_
    refine W_seq ?_
    refine W_seq ?_
    refine W_region ?_
    refine WR_val rfl (rn_assign) ?_
    refine WR_nil ?_
    refine thenN ?_
    refine W_block ?_
    refine W_loop (α := Nat) 0 (fun i => [(5, .int .i64 (i : Nat)), (0, .slice p n cp), (1, .slice p2 n2 cp2)]) (fun i w' => i ≤ n ∧ l.take i = l2.take i ∧ Below w.heap.size w w') (fun i => n - i)
      ⟨rfl, rfl, rfl, rfl⟩ ⟨Nat.zero_le _, rfl, hB⟩ ?_
    rintro i f wr ⟨hi, hok, hB⟩
    refine W_seq ?_
    refine W_seq ?_
    refine W_region ?_
    refine WR_val rfl (rn_move) ?_
    refine WR_val rfl (rn_move) ?_
    refine WR_val rfl (rn_lenSl (e := 2) (sz := 1) (by kernel_rfl) rfl rfl) ?_
    refine WR_val rfl (rn_lss rfl rfl) ?_
    refine WR_nil ?_
    refine thenN ?_
    refine W_ifp rfl (fun hlt => ?_) (fun hlt => ?_)
    ·
      refine W_skip ?_
      refine thenN ?_
      refine W_seq ?_
      refine W_block ?_
      refine W_seq ?_
      have hobt := slAt_getI h (i := i) (by omega)
      obtain ⟨x, hx⟩ := hobt
      have hobt := slAt_getI h2 (i := i) (by omega)
      obtain ⟨y, hy⟩ := hobt
      have hobt := h.some (by omega)
      obtain ⟨g, o, rfl, hg⟩ := hobt
      have hobt := h2.some (by omega)
      obtain ⟨g2, o2, rfl, hg2⟩ := hobt
      refine W_draw' [] (by kernel_rfl) ?_
      intro w901 hb901 hS901
      replace hB := hB.acc hb901
      have hB_d901 := hB
      refine WA_take 0 (by kernel_rfl) rfl (fun _ _ => rn_move) ?_
      refine WA_take 1 (by kernel_rfl) rfl (fun _ _ => rn_move) ?_
      refine WA_take 2 (by kernel_rfl) rfl (fun _ _ => rn_indexSl1 (e := 2) (by kernel_rfl) rfl rfl (i) (by omega) (by omega)) ?_
      refine WA_take 3 (by kernel_rfl) rfl (fun w' hS' => rn_load rfl (Ld.sl1 (h.below (hB_d901.kpd hS' (by first | (simp; done) | (simp; omega))) (Nat.le_refl _)) (by kernel_rfl) (iv_some hx))) ?_
      refine WA_take 4 (by kernel_rfl) rfl (fun _ _ => rn_move) ?_
      refine WA_take 5 (by kernel_rfl) rfl (fun _ _ => rn_move) ?_
      refine WA_take 6 (by kernel_rfl) rfl (fun _ _ => rn_indexSl1 (e := 2) (by kernel_rfl) rfl rfl (i) (by omega) (by omega)) ?_
      refine WA_take 7 (by kernel_rfl) rfl (fun w' hS' => rn_load rfl (Ld.sl1 (h2.below (hB_d901.kpd hS' (by first | (simp; done) | (simp; omega))) (Nat.le_refl _)) (by kernel_rfl) (iv_some hy))) ?_
      refine WA_take 8 (by kernel_rfl) rfl (fun _ _ => rn_neq rfl rfl) ?_
      refine WA_done (by kernel_rfl) ?_
      refine thenN ?_
      refine W_ifp rfl (fun hxy => ?_) (fun hxy => ?_)
      ·
        refine W_seq ?_
        refine W_region ?_
        refine WR_val rfl (rn_assign) ?_
        refine WR_nil ?_
        refine thenN ?_
        refine W_ret ?_
        refine blockR ?_
        refine thenR ?_
        refine loopR ?_
        refine blockR ?_
        refine thenR ?_
        refine ret_ret [_] ⟨rfl, trivial⟩ ?_
        exact ⟨vb (by rw [decide_eq_false]; rintro rfl; rw [hx] at hy; cases hy; simp at hxy), hB⟩
      ·
        refine W_skip ?_
        refine blockN ?_
        refine thenN ?_
        refine W_region ?_
        refine WR_val rfl (rn_move) ?_
        refine WR_val rfl (rn_add rfl rfl (Coup.w64 (by omega))) ?_
        refine WR_val rfl (rn_assign) ?_
        refine WR_nil ?_
        refine loopN ⟨i + 1, by omega, ⟨rfl, rfl, rfl, rfl⟩, by omega, ?_, hB⟩
        obtain rfl : x = y := by simpa using hxy
        rw [take_snoc hx, take_snoc hy, hok]
    ·
      rw [List.take_of_length_le (by omega), List.take_of_length_le (by omega)] at hok
      refine W_exit ?_
      refine thenX ?_
      refine loopX ?_
      refine blockX ?_
      refine thenN ?_
      refine W_seq ?_
      refine W_region ?_
      refine WR_val rfl (rn_assign) ?_
      refine WR_nil ?_
      refine thenN ?_
      refine W_ret ?_
      refine ret_ret [_] ⟨rfl, trivial⟩ ?_
      exact ⟨vb (by rw [decide_eq_true hok]), hB⟩
end Go.Proofs.Ytknjiohhlemeiaa
