/- Small functions of fare and of its reference: amounts, sums, weights, rates; lists that are the same. -/
import Derived.Test.YtknjiohhlemeiaaProg
import Derived.Test.YtknjiohhlemeiaaVm11
namespace Go.Proofs.Ytknjiohhlemeiaa
open Go Go.RowKit Coup

def mayM (n : Int) : Bool := decide (-1000000000000 ≤ n) && decide (n ≤ 1000000000000)
def someM (n : Int) : Bool := mayM n && decide (0 ≤ n)
theorem mayM_iff {n : Int} : mayM n = true ↔ -1000000000000 ≤ n ∧ n ≤ 1000000000000 := by simp [mayM]
theorem mayM_not {n : Int} : mayM n = false ↔ ¬ (-1000000000000 ≤ n ∧ n ≤ 1000000000000) := by rw [← mayM_iff]; simp
theorem someM_iff {n : Int} : someM n = true ↔ 0 ≤ n ∧ n ≤ 1000000000000 := by simp [someM, mayM_iff]; omega
theorem someM_not {n : Int} : someM n = false ↔ ¬ (0 ≤ n ∧ n ≤ 1000000000000) := by rw [← someM_iff]; simp
theorem take_snoc {α : Type} {l : List α} {i : Nat} {x : α} (h : l[i]? = some x) : l.take (i + 1) = l.take i ++ [x] := by rw [List.take_add_one, h]; rfl
def sumI : List Int → Int
  | [] => 0
  | x :: l => x + sumI l
theorem sumI_append (a b : List Int) : sumI (a ++ b) = sumI a + sumI b := by
  induction a with
  | nil => simp [sumI]
  | cons x a ih => simp [sumI, ih]; omega
theorem sumI_snoc (a : List Int) (x : Int) : sumI (a ++ [x]) = sumI a + x := by rw [sumI_append]; simp [sumI]
theorem sumI_le (l : List Int) (B : Int) (h : ∀ x ∈ l, x ≤ B) : sumI l ≤ l.length * B := by
  induction l with
  | nil => simp [sumI]
  | cons x l ih =>
    have h1 := h x (by simp)
    have h2 := ih fun y hy => h y (by simp [hy])
    simp only [sumI, List.length_cons]
    have : ((l.length + 1 : Nat) : Int) * B = l.length * B + B := by rw [Int.natCast_add, Int.add_mul]; omega
    omega
theorem sumI_ge (l : List Int) (B : Int) (h : ∀ x ∈ l, B ≤ x) : l.length * B ≤ sumI l := by
  induction l with
  | nil => simp [sumI]
  | cons x l ih =>
    have h1 := h x (by simp)
    have h2 := ih fun y hy => h y (by simp [hy])
    simp only [sumI, List.length_cons]
    have : ((l.length + 1 : Nat) : Int) * B = l.length * B + B := by rw [Int.natCast_add, Int.add_mul]; omega
    omega
def okW (l : List Int) : Bool := l.all fun x => decide (0 ≤ x) && decide (x ≤ 1000000000000)
def someW (l : List Int) : Bool := l.any fun x => decide (0 < x)
def mayW (l : List Int) : Bool := okW l && someW l
theorem okW_iff {l : List Int} : okW l = true ↔ ∀ x ∈ l, 0 ≤ x ∧ x ≤ 1000000000000 := by simp [okW]
theorem okW_not {l : List Int} {i : Nat} {x : Int} (h : l[i]? = some x) (hx : ¬ (0 ≤ x ∧ x ≤ 1000000000000)) : okW l = false := by
  cases he : okW l with
  | false => rfl
  | true => exact absurd (okW_iff.1 he x (List.mem_of_getElem? h)) hx
theorem okW_snoc {l : List Int} {x : Int} (h : okW l = true) (hx : 0 ≤ x ∧ x ≤ 1000000000000) : okW (l ++ [x]) = true := by
  rw [okW_iff] at h ⊢
  intro y hy
  rcases List.mem_append.1 hy with h1 | h1
  · exact h y h1
  · simp at h1; subst h1; exact hx
theorem someW_snoc (l : List Int) (x : Int) : someW (l ++ [x]) = (someW l || decide (0 < x)) := by simp [someW]

theorem may25 (n : Int) (w : World) : Calls Try.prog 25 [.int .i64 n].toArray w (Ret fun v w' => v = .bool (mayM n) ∧ w = w') := by
  refine calls_W (fn := Try.f25) (rs := [.tmp 2]) (n := 9) Try.func25 rfl rfl Try.ntmps25 (by kernel_rfl) rfl ?_
  refine W_seq ?_
  refine W_region ?_
  refine WR_val rfl (rn_assign) ?_
  refine WR_nil ?_
  refine thenN ?_
  refine W_seq ?_
  refine W_region ?_
  refine WR_val rfl (rn_move) ?_
  refine WR_val rfl (rn_geq rfl rfl) ?_
  refine WR_val rfl (rn_move) ?_
  refine WR_part 5 rfl (fun h => ?_) (fun h => ?_)
  ·
    refine WR_yes rfl ?_
    refine WR_val rfl (rn_move) ?_
    refine WR_yes rfl ?_
    refine WR_val rfl (rn_leq rfl rfl) ?_
    refine WR_val rfl (rn_pick_t rfl) ?_
    refine WR_val rfl (rn_assign) ?_
    refine WR_nil ?_
    refine thenN ?_
    refine W_ret ?_
    refine ret_ret [_] ⟨rfl, trivial⟩ ?_
    exact ⟨vb (by simp [mayM, h]), rfl⟩
  ·
    refine WR_no rfl rfl ?_
    refine WR_no rfl rfl ?_
    refine WR_val rfl (rn_pick_f rfl) ?_
    refine WR_val rfl (rn_assign) ?_
    refine WR_nil ?_
    refine thenN ?_
    refine W_ret ?_
    refine ret_ret [_] ⟨rfl, trivial⟩ ?_
    exact ⟨vb (by simp [mayM, h]), rfl⟩
theorem may13 (n : Int) (w : World) : Calls Try.prog 13 [.int .i64 n].toArray w (Ret fun v w' => v = .bool (mayM n) ∧ w = w') := by
  refine calls_W (fn := Try.f13) (rs := [.tmp 2]) (n := 9) Try.func13 rfl rfl Try.ntmps13 (by kernel_rfl) rfl ?_
  refine W_seq ?_
  refine W_region ?_
  refine WR_val rfl (rn_assign) ?_
  refine WR_nil ?_
  refine thenN ?_
  refine W_seq ?_
  refine W_region ?_
  refine WR_val rfl (rn_move) ?_
  refine WR_val rfl (rn_geq rfl rfl) ?_
  refine WR_val rfl (rn_move) ?_
  refine WR_part 5 rfl (fun h => ?_) (fun h => ?_)
  ·
    refine WR_yes rfl ?_
    refine WR_val rfl (rn_move) ?_
    refine WR_yes rfl ?_
    refine WR_val rfl (rn_leq rfl rfl) ?_
    refine WR_val rfl (rn_pick_t rfl) ?_
    refine WR_val rfl (rn_assign) ?_
    refine WR_nil ?_
    refine thenN ?_
    refine W_ret ?_
    refine ret_ret [_] ⟨rfl, trivial⟩ ?_
    exact ⟨vb (by simp [mayM, h]), rfl⟩
  ·
    refine WR_no rfl rfl ?_
    refine WR_no rfl rfl ?_
    refine WR_val rfl (rn_pick_f rfl) ?_
    refine WR_val rfl (rn_assign) ?_
    refine WR_nil ?_
    refine thenN ?_
    refine W_ret ?_
    refine ret_ret [_] ⟨rfl, trivial⟩ ?_
    exact ⟨vb (by simp [mayM, h]), rfl⟩
theorem some27 (n : Int) (w : World) : Calls Try.prog 27 [.int .i64 n].toArray w (Ret fun v w' => v = .bool (someM n) ∧ w = w') := by
  refine calls_W (fn := Try.f27) (rs := [.tmp 2]) (n := 9) Try.func27 rfl rfl Try.ntmps27 (by kernel_rfl) rfl ?_
  refine W_seq ?_
  refine W_region ?_
  refine WR_val rfl (rn_assign) ?_
  refine WR_nil ?_
  refine thenN ?_
  refine W_seq ?_
  refine W_region ?_
  refine WR_val rfl (rn_move) ?_
  refine WR_ent rfl (rn_call (by kernel_rfl) rfl) (may25 n w) ?_
  rintro _ _ ⟨rfl, rfl⟩
  refine WR_val rfl (rn_move) ?_
  refine WR_partb 5 rfl (fun h => ?_) (fun h => ?_)
  ·
    refine WR_yes rfl ?_
    refine WR_val rfl (rn_move) ?_
    refine WR_yes rfl ?_
    refine WR_val rfl (rn_geq rfl rfl) ?_
    refine WR_val rfl (rn_pick_t rfl) ?_
    refine WR_val rfl (rn_assign) ?_
    refine WR_nil ?_
    refine thenN ?_
    refine W_ret ?_
    refine ret_ret [_] ⟨rfl, trivial⟩ ?_
    exact ⟨vb (by simp [someM, h]), rfl⟩
  ·
    refine WR_no rfl rfl ?_
    refine WR_no rfl rfl ?_
    refine WR_val rfl (rn_pick_f rfl) ?_
    refine WR_val rfl (rn_assign) ?_
    refine WR_nil ?_
    refine thenN ?_
    refine W_ret ?_
    refine ret_ret [_] ⟨rfl, trivial⟩ ?_
    exact ⟨vb (by simp [someM, h]), rfl⟩
theorem mayW12 (p : Option Addr) (n cp : Nat) (l : List Int) (w : World) (h : SlAt w p n 1 (iv l)) : Calls Try.prog 12 [.slice p n cp].toArray w (Ret fun v w' => v = .bool (mayW l) ∧ w = w') := by
  have hl : l.length = n := by simpa [iv_length] using h.len
  have hmax := h.max
  have hml : maxLen = 9223372036854775807 := by decide
  refine calls_W (fn := Try.f12) (rs := [.tmp 2]) (n := 32) Try.func12 rfl rfl Try.ntmps12 (by kernel_rfl) rfl ?_
  refine W_seq ?_
  refine W_region ?_
  refine WR_val rfl (rn_assign) ?_
  refine WR_nil ?_
  refine thenN ?_
  refine W_seq ?_
  refine W_region ?_
  refine WR_val rfl (rn_assign) ?_
  refine WR_nil ?_
  refine thenN ?_
  refine W_seq ?_
  refine W_seq ?_
  refine W_region ?_
  refine WR_val rfl (rn_assign) ?_
  refine WR_nil ?_
  refine thenN ?_
  refine W_block ?_
  refine W_loop (α := Nat) 0 (fun i => [(4, .int .i64 (i : Nat)), (3, .bool (someW (l.take i))), (0, .slice p n cp)]) (fun i w' => i ≤ n ∧ okW (l.take i) = true ∧ w = w') (fun i => n - i)
    ⟨rfl, rfl, rfl, rfl⟩ ⟨Nat.zero_le _, rfl, rfl⟩ ?_
  rintro i f _ ⟨hi, hok, rfl⟩
  refine W_seq ?_
  refine W_seq ?_
  refine W_region ?_
  refine WR_val rfl (rn_move) ?_
  refine WR_val rfl (rn_move) ?_
  refine WR_val rfl (rn_lenSl (e := 2) (sz := 1) (by kernel_rfl) rfl rfl) ?_
  refine WR_val rfl (rn_lss rfl rfl) ?_
  refine WR_nil ?_
  refine thenN ?_
  refine W_ifp rfl (fun hlt => ?_) (fun hlt => ?_)
  ·
    refine W_skip ?_
    refine thenN ?_
    refine W_seq ?_
    refine W_block ?_
    refine W_seq ?_
    refine W_seq ?_
    have hobt := slAt_getI h (i := i) (by omega)
    obtain ⟨x, hx⟩ := hobt
    have hobt := h.some (by omega)
    obtain ⟨g, o, rfl, hg⟩ := hobt
    refine W_region ?_
    refine WR_val rfl (rn_move) ?_
    refine WR_val rfl (rn_move) ?_
    refine WR_val rfl (rn_indexSl1 (e := 2) (by kernel_rfl) rfl rfl (i) (by omega) (by omega)) ?_
    refine WR_val rfl (rn_load rfl (Ld.sl1 h (by kernel_rfl) (iv_some hx))) ?_
    refine WR_val rfl (rn_lss rfl rfl) ?_
    refine WR_val rfl (rn_move) ?_
    refine WR_part 16 rfl (fun hneg => ?_) (fun hneg => ?_)
    ·
      refine WR_no rfl rfl ?_
      refine WR_no rfl rfl ?_
      refine WR_no rfl rfl ?_
      refine WR_no rfl rfl ?_
      refine WR_no rfl rfl ?_
      refine WR_val rfl (rn_pick_t rfl) ?_
      refine WR_nil ?_
      refine thenN ?_
      refine W_t rfl ?_
      refine W_seq ?_
      refine W_region ?_
      refine WR_val rfl (rn_assign) ?_
      refine WR_nil ?_
      refine thenN ?_
      refine W_ret ?_
      refine thenR ?_
      refine blockR ?_
      refine thenR ?_
      refine loopR ?_
      refine blockR ?_
      refine thenR ?_
      refine ret_ret [_] ⟨rfl, trivial⟩ ?_
      exact ⟨vb (by rw [mayW, okW_not hx (by omega)]; rfl), rfl⟩
    ·
      refine WR_yes rfl ?_
      refine WR_val rfl (rn_move) ?_
      refine WR_yes rfl ?_
      refine WR_val rfl (rn_move) ?_
      refine WR_yes rfl ?_
      refine WR_val rfl (rn_indexSl1 (e := 2) (by kernel_rfl) rfl rfl (i) (by omega) (by omega)) ?_
      refine WR_yes rfl ?_
      refine WR_val rfl (rn_load rfl (Ld.sl1 h (by kernel_rfl) (iv_some hx))) ?_
      refine WR_yes rfl ?_
      refine WR_val rfl (rn_gtr rfl rfl) ?_
      refine WR_val rfl (rn_pick_f rfl) ?_
      refine WR_nil ?_
      refine thenN ?_
      refine W_ifp rfl (fun hbig => ?_) (fun hbig => ?_)
      ·
        refine W_seq ?_
        refine W_region ?_
        refine WR_val rfl (rn_assign) ?_
        refine WR_nil ?_
        refine thenN ?_
        refine W_ret ?_
        refine thenR ?_
        refine blockR ?_
        refine thenR ?_
        refine loopR ?_
        refine blockR ?_
        refine thenR ?_
        refine ret_ret [_] ⟨rfl, trivial⟩ ?_
        exact ⟨vb (by rw [mayW, okW_not hx (by omega)]; rfl), rfl⟩
      ·
        refine W_skip ?_
        refine thenN ?_
        refine W_region ?_
        refine WR_val rfl (rn_move) ?_
        refine WR_val rfl (rn_move) ?_
        refine WR_partb 24 rfl (fun hs => ?_) (fun hs => ?_)
        ·
          refine WR_no rfl rfl ?_
          refine WR_no rfl rfl ?_
          refine WR_no rfl rfl ?_
          refine WR_no rfl rfl ?_
          refine WR_no rfl rfl ?_
          refine WR_val rfl (rn_pick_t rfl) ?_
          refine WR_val rfl (rn_assign) ?_
          refine WR_nil ?_
          refine blockN ?_
          refine thenN ?_
          refine W_region ?_
          refine WR_val rfl (rn_move) ?_
          refine WR_val rfl (rn_add rfl rfl (Coup.w64 (by omega))) ?_
          refine WR_val rfl (rn_assign) ?_
          refine WR_nil ?_
          refine loopN ⟨i + 1, by omega, ⟨rfl, vb (by rw [take_snoc hx, someW_snoc, hs]; rfl), rfl, rfl⟩, by omega, by rw [take_snoc hx]; exact okW_snoc hok (by omega), rfl⟩
        ·
          refine WR_yes rfl ?_
          refine WR_val rfl (rn_move) ?_
          refine WR_yes rfl ?_
          refine WR_val rfl (rn_move) ?_
          refine WR_yes rfl ?_
          refine WR_val rfl (rn_indexSl1 (e := 2) (by kernel_rfl) rfl rfl (i) (by omega) (by omega)) ?_
          refine WR_yes rfl ?_
          refine WR_val rfl (rn_load rfl (Ld.sl1 h (by kernel_rfl) (iv_some hx))) ?_
          refine WR_yes rfl ?_
          refine WR_val rfl (rn_gtr rfl rfl) ?_
          refine WR_val rfl (rn_pick_f rfl) ?_
          refine WR_val rfl (rn_assign) ?_
          refine WR_nil ?_
          refine blockN ?_
          refine thenN ?_
          refine W_region ?_
          refine WR_val rfl (rn_move) ?_
          refine WR_val rfl (rn_add rfl rfl (Coup.w64 (by omega))) ?_
          refine WR_val rfl (rn_assign) ?_
          refine WR_nil ?_
          refine loopN ⟨i + 1, by omega, ⟨rfl, vb (by rw [take_snoc hx, someW_snoc, hs]; rfl), rfl, rfl⟩, by omega, by rw [take_snoc hx]; exact okW_snoc hok (by omega), rfl⟩
  ·
    refine W_exit ?_
    refine thenX ?_
    refine loopX ?_
    refine blockX ?_
    refine thenN ?_
    refine W_seq ?_
    refine W_region ?_
    refine WR_val rfl (rn_move) ?_
    refine WR_val rfl (rn_assign) ?_
    refine WR_nil ?_
    refine thenN ?_
    refine W_ret ?_
    refine ret_ret [_] ⟨rfl, trivial⟩ ?_
    rw [List.take_of_length_le (by omega)] at *
    exact ⟨vb (by rw [mayW, hok]; rfl), rfl⟩
theorem together16 (p : Option Addr) (n cp : Nat) (l : List Int) (w : World) (h : SlAt w p n 1 (iv l)) (hok : okW l = true) (hn : n ≤ 100000) : Calls Try.prog 16 [.slice p n cp].toArray w (Ret fun v w' => v = .int .i64 (sumI l) ∧ w = w') := by
  have hl : l.length = n := by simpa [iv_length] using h.len
  rw [okW_iff] at hok
  refine calls_W (fn := Try.f16) (rs := [.tmp 2]) (n := 18) Try.func16 rfl rfl Try.ntmps16 (by kernel_rfl) rfl ?_
  refine W_seq ?_
  refine W_region ?_
  refine WR_val rfl (rn_assign) ?_
  refine WR_nil ?_
  refine thenN ?_
  refine W_seq ?_
  refine W_region ?_
  refine WR_val rfl (rn_assign) ?_
  refine WR_nil ?_
  refine thenN ?_
  refine W_seq ?_
  refine W_seq ?_
  refine W_region ?_
  refine WR_val rfl (rn_assign) ?_
  refine WR_nil ?_
  refine thenN ?_
  refine W_block ?_
  refine W_loop (α := Nat) 0 (fun i => [(4, .int .i64 (i : Nat)), (3, .int .i64 (sumI (l.take i))), (0, .slice p n cp)]) (fun i w' => i ≤ n ∧ w = w') (fun i => n - i)
    ⟨rfl, rfl, rfl, rfl⟩ ⟨Nat.zero_le _, rfl⟩ ?_
  rintro i f _ ⟨hi, rfl⟩
  have h1 := sumI_le (l.take i) 1000000000000 fun x hx => (hok x (List.mem_of_mem_take hx)).2
  have h2 := sumI_ge (l.take i) 0 fun x hx => (hok x (List.mem_of_mem_take hx)).1
  rw [List.length_take, hl, Nat.min_eq_left hi] at h1 h2
  refine W_seq ?_
  refine W_seq ?_
  refine W_region ?_
  refine WR_val rfl (rn_move) ?_
  refine WR_val rfl (rn_move) ?_
  refine WR_val rfl (rn_lenSl (e := 2) (sz := 1) (by kernel_rfl) rfl rfl) ?_
  refine WR_val rfl (rn_lss rfl rfl) ?_
  refine WR_nil ?_
  refine thenN ?_
  refine W_ifp rfl (fun hlt => ?_) (fun hlt => ?_)
  ·
    refine W_skip ?_
    refine thenN ?_
    refine W_seq ?_
    refine W_block ?_
    have hobt := slAt_getI h (i := i) (by omega)
    obtain ⟨x, hx⟩ := hobt
    have hobt := h.some (by omega)
    obtain ⟨g, o, rfl, hg⟩ := hobt
    have hxb := hok x (List.mem_of_getElem? hx)
    refine W_region ?_
    refine WR_val rfl (rn_move) ?_
    refine WR_val rfl (rn_move) ?_
    refine WR_val rfl (rn_move) ?_
    refine WR_val rfl (rn_indexSl1 (e := 2) (by kernel_rfl) rfl rfl (i) (by omega) (by omega)) ?_
    refine WR_val rfl (rn_load rfl (Ld.sl1 h (by kernel_rfl) (iv_some hx))) ?_
    refine WR_val rfl (rn_add rfl rfl (Coup.w64 (by omega))) ?_
    refine WR_val rfl (rn_assign) ?_
    refine WR_nil ?_
    refine blockN ?_
    refine thenN ?_
    refine W_region ?_
    refine WR_val rfl (rn_move) ?_
    refine WR_val rfl (rn_add rfl rfl (Coup.w64 (by omega))) ?_
    refine WR_val rfl (rn_assign) ?_
    refine WR_nil ?_
    refine loopN ⟨i + 1, by omega, ⟨rfl, vi (by rw [take_snoc hx, sumI_snoc]), rfl, rfl⟩, by omega, rfl⟩
  ·
    refine W_exit ?_
    refine thenX ?_
    refine loopX ?_
    refine blockX ?_
    refine thenN ?_
    refine W_seq ?_
    refine W_region ?_
    refine WR_val rfl (rn_move) ?_
    refine WR_val rfl (rn_assign) ?_
    refine WR_nil ?_
    refine thenN ?_
    refine W_ret ?_
    refine ret_ret [_] ⟨rfl, trivial⟩ ?_
    rw [List.take_of_length_le (by omega)] at *
    exact ⟨rfl, rfl⟩
end Go.Proofs.Ytknjiohhlemeiaa
