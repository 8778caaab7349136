/- Lists of sectors that are the same; rows and tags at their bounds. -/
import Derived.Test.YtnlocpldghpfcaaHalfN
namespace Go.Proofs.Ytnlocpldghpfcaa
open Go Go.RowKit Coup

theorem Ld_sec {w : World} {g off m j : Nat} {l : List UInt8} (h : SlAt w (some ⟨g, off, none⟩) m 128 (bv l)) (hj : j < m) : Ld Try.prog w 48 ⟨g, off + j * 128, none⟩ (.agg (bv (secAt l j)).toArray) := by
  have hl : l.length = m * 128 := by simpa [bv_length] using h.len
  have := Ld.slN (P := Try.prog) (t := 48) (j := j * 128) (k := 128) h (by kernel_rfl) (by kernel_rfl) (by rw [bv_length, hl]; omega)
  rwa [← bv_drop, ← bv_take, Nat.mul_comm j 128, ← secAt, Nat.mul_comm 128 j] at this
theorem secAt_len {l : List UInt8} {m j : Nat} (hl : l.length = m * 128) (hj : j < m) : (secAt l j).length = 128 := secAt_length _ _ (by omega)

theorem sameC (p q : Option Addr) (n c d : Nat) (l : List UInt8) (w : World) (h : SlAt w p n 128 (bv l)) (k : SlAt w q n 128 (bv l)) (hn : n ≤ 1000000) :
    Calls Try.prog 14 [.slice p n c, .slice q n d].toArray w (Ret fun v w' => v = .bool true ∧ Below w.heap.size w w') := by
  have hB := Below.refl w.heap.size w
  have hl : l.length = n * 128 := by simpa [bv_length] using h.len
  refine calls_W (fn := Try.f14) (rs := [.tmp 4]) (n := 26) Try.func14 rfl rfl Try.ntmps14 (by kernel_rfl) rfl ?_
  refine W_seq ?_
  refine W_region ?_
  refine WR_val rfl (rn_assign) ?_
  refine WR_nil ?_
  refine thenN ?_
  refine W_seq ?_
  refine W_seq ?_
  refine W_region ?_
  refine WR_val rfl (rn_move) ?_
  refine WR_val rfl (rn_lenSl (e := 48) (sz := 128) (by kernel_rfl) rfl rfl) ?_
  refine WR_val rfl (rn_move) ?_
  refine WR_val rfl (rn_lenSl (e := 48) (sz := 128) (by kernel_rfl) rfl rfl) ?_
  refine WR_val rfl (rn_neq rfl rfl) ?_
  refine WR_nil ?_
  refine thenN ?_
  refine W_fp rfl ((by omega)) ?_
  refine W_skip ?_
  refine thenN ?_
  refine W_seq ?_
  refine W_seq ?_
  refine W_region ?_
  refine WR_val rfl (rn_assign) ?_
  refine WR_nil ?_
  refine thenN ?_
  refine W_block ?_
  refine W_loop (α := Nat) 0 (fun i => [(5, .int .i64 (i : Nat)), (0, .slice p n c), (1, .slice q n d)]) (fun i w' => i ≤ n ∧ Below w.heap.size w w') (fun i => n - i) ⟨rfl, rfl, rfl, rfl⟩ ⟨Nat.zero_le _, hB⟩ ?_
  rintro i f wr ⟨hi, hB⟩
  refine W_seq ?_
  refine W_seq ?_
  refine W_region ?_
  refine WR_val rfl (rn_move) ?_
  refine WR_val rfl (rn_move) ?_
  refine WR_val rfl (rn_lenSl (e := 48) (sz := 128) (by kernel_rfl) rfl rfl) ?_
  refine WR_val rfl (rn_lss rfl rfl) ?_
  refine WR_nil ?_
  refine thenN ?_
  refine W_ifp rfl (fun hlt => ?_) (fun hlt => ?_)
  ·
    refine W_skip ?_
    refine thenN ?_
    refine W_seq ?_
    refine W_block ?_
    refine W_seq ?_
    have hp := h.below hB (Nat.le_refl _)
    have hq := k.below hB (Nat.le_refl _)
    have hobt := hp.some (by omega)
    obtain ⟨gp, op, rfl, hgp⟩ := hobt
    have hobt := hq.some (by omega)
    obtain ⟨gq, oq, rfl, hgq⟩ := hobt
    have hsl := secAt_len hl (j := i) (by omega)
    refine W_draw' [] (by kernel_rfl) ?_
    intro w901 hb901 hS901
    replace hp := hp.new hb901
    replace hq := hq.new hb901
    replace hB := hB.acc hb901
    have hp_d901 := hp
    have hq_d901 := hq
    have hB_d901 := hB
    refine WA_take 0 (by kernel_rfl) rfl (fun _ _ => rn_move) ?_
    refine WA_take 1 (by kernel_rfl) rfl (fun _ _ => rn_move) ?_
    refine WA_take 2 (by kernel_rfl) rfl (fun _ _ => rn_indexSl (e := 48) (sz := 128) (by kernel_rfl) rfl rfl (i) (by omega) (by omega)) ?_
    refine WA_take 3 (by kernel_rfl) rfl (fun w' hS' => rn_load rfl (Ld_sec (hp_d901.kpd hS' (by first | (simp; done) | (simp; omega))) (j := i) (by omega))) ?_
    refine WA_take 4 (by kernel_rfl) rfl (fun _ _ => rn_move) ?_
    refine WA_take 5 (by kernel_rfl) rfl (fun _ _ => rn_move) ?_
    refine WA_take 6 (by kernel_rfl) rfl (fun _ _ => rn_indexSl (e := 48) (sz := 128) (by kernel_rfl) rfl rfl (i) (by omega) (by omega)) ?_
    refine WA_take 7 (by kernel_rfl) rfl (fun w' hS' => rn_load rfl (Ld_sec (hq_d901.kpd hS' (by first | (simp; done) | (simp; omega))) (j := i) (by omega))) ?_
    refine WA_take 8 (by kernel_rfl) rfl (fun _ _ => rn_neqA (n := 128) (by kernel_rfl) rfl rfl hsl hsl) ?_
    refine WA_done (by kernel_rfl) ?_
    refine thenN ?_
    refine W_fn rfl ((by simp)) ?_
    refine W_skip ?_
    refine blockN ?_
    refine thenN ?_
    refine W_region ?_
    refine WR_val rfl (rn_move) ?_
    refine WR_val rfl (rn_add rfl rfl (Coup.w64 (by omega))) ?_
    refine WR_val rfl (rn_assign) ?_
    refine WR_nil ?_
    refine loopN ⟨i + 1, by omega, ⟨rfl, by go_num, rfl, rfl⟩, by omega, hB⟩
  ·
    refine W_exit ?_
    refine thenX ?_
    refine loopX ?_
    refine blockX ?_
    refine thenN ?_
    refine W_seq ?_
    refine W_region ?_
    refine WR_val rfl (rn_assign) ?_
    refine WR_nil ?_
    refine thenN ?_
    refine W_ret ?_
    refine ret_ret [_] ⟨rfl, trivial⟩ ?_
    exact ⟨rfl, hB⟩
end Go.Proofs.Ytnlocpldghpfcaa
