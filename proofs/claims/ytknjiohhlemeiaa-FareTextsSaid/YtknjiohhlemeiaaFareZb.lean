/- The reference's amount of a text: the walk of Of. -/
import Derived.Test.YtknjiohhlemeiaaFareZa
namespace Go.Proofs.Ytknjiohhlemeiaa
open Go Go.RowKit Coup

def ofR (l : List UInt8) : Int × Int := if 1000000000000 < numR (tlR l) then (0, 14) else if l ≠ tlR l then (-numR (tlR l), 0) else (numR (tlR l), 0)
theorem numR_snoc (l : List UInt8) (b : UInt8) : numR (l ++ [b]) = stepR (numR l) b := by simp [numR]
set_option maxHeartbeats 1000000 in
theorem of23 (l : List UInt8) (w : World) (hl : l.length ≤ 100000) : Calls Try.prog 23 [strOf l].toArray w (Ret fun v w' => ((¬ FormR l ∧ v = .tuple #[.int .i64 0, .int .i64 4]) ∨ (FormR l ∧ v = .tuple #[.int .i64 (ofR l).1, .int .i64 (ofR l).2])) ∧ Below w.heap.size w w') := by
  have hB := Below.refl w.heap.size w
  have hml : maxLen = 9223372036854775807 := by decide
  have htl : (tlR l).length ≤ l.length := by unfold tlR; split <;> simp
  refine calls_W (fn := Try.f23) (rs := [.tmp 2, .tmp 3]) (n := 46) Try.func23 rfl rfl Try.ntmps23 (by kernel_rfl) rfl ?_
  refine W_seq ?_
  refine W_region ?_
  refine WR_val rfl (rn_assign) ?_
  refine WR_val rfl (rn_assign) ?_
  refine WR_nil ?_
  refine thenN ?_
  refine W_seq ?_
  refine W_seq ?_
  refine W_region ?_
  refine WR_val rfl (rn_move) ?_
  refine WR_ent rfl (rn_call (by kernel_rfl) rfl) (form38 l w hl) ?_
  rintro _ w8 ⟨fo, rfl, hfo1, hfo2, hb8⟩
  replace hB := hB.acc hb8
  refine WR_val rfl (rn_not rfl) ?_
  refine WR_nil ?_
  refine thenN ?_
  refine W_ifnb rfl (fun hno => ?_) (fun hno => ?_)
  ·
    refine W_seq ?_
    refine W_region ?_
    refine WR_val rfl (rn_assign) ?_
    refine WR_val rfl (rn_assign) ?_
    refine WR_nil ?_
    refine thenN ?_
    refine W_ret ?_
    refine thenR ?_
    refine ret_ret [_, _] ⟨rfl, rfl, trivial⟩ ?_
    exact ⟨Or.inl ⟨hfo2 (by simpa using hno), rfl⟩, hB⟩
  ·
    have hform := hfo1 (by simpa using hno)
    have h4 := hform.1.1
    have hdig := hform.2
    have hpt := hform.1.2.1
    have hl1 : 1 ≤ l.length := by omega
    obtain ⟨b0, hb0⟩ : ∃ b, l[0]? = some b := ⟨_, List.getElem?_eq_getElem (by omega)⟩
    refine W_skip ?_
    refine thenN ?_
    refine W_seq ?_
    refine W_region ?_
    refine WR_val rfl (rn_move) ?_
    refine WR_val rfl (rn_assign) ?_
    refine WR_nil ?_
    refine thenN ?_
    refine W_cut (fun _ : Unit => [(4, strOf (tlR l)), (0, strOf l)]) (fun _ w' => w8 = w') ?_ ?_
    ·
      refine W_seq ?_
      refine W_region ?_
      refine WR_val rfl (rn_move) ?_
      refine WR_val rfl (rn_byteS (by kernel_rfl) rfl rfl 0 rfl hb0) ?_
      refine WR_val rfl (rn_eql rfl rfl) ?_
      refine WR_nil ?_
      refine thenN ?_
      refine W_ifp rfl (fun hneg => ?_) (fun hneg => ?_)
      ·
        have hhd : l.head? = some 45 := by rw [List.head?_eq_getElem?, hb0, u8_k (c := 45) (k := 45) hneg rfl]
        refine W_region ?_
        refine WR_val rfl (rn_move) ?_
        refine WR_val rfl (rn_sliceFrom 1 (by kernel_rfl) rfl ⟨_, _, rfl, rfl⟩ hl1) ?_
        refine WR_val rfl (rn_assign) ?_
        refine WR_nil ?_
        refine loopN ⟨(), ⟨?_, rfl, rfl⟩, rfl⟩
        rw [tlR, if_pos hhd]; rfl
      ·
        have hhd : l.head? ≠ some 45 := by
          rw [List.head?_eq_getElem?, hb0]
          intro q
          rw [Option.some.inj q] at hneg
          exact hneg rfl
        refine W_skip ?_
        refine loopN ⟨(), ⟨?_, rfl, rfl⟩, rfl⟩
        rw [tlR, if_neg hhd]; rfl
    ·
      rintro - f _ rfl
      obtain ⟨t, ht⟩ : ∃ t, tlR l = t := ⟨_, rfl⟩
      have hO : ofR l = if 1000000000000 < numR t then (0, 14) else if l ≠ t then (-numR t, 0) else (numR t, 0) := by rw [ofR, ht]
      rw [hO]
      rw [ht] at htl h4 hdig hpt ⊢
      have hdg : ∀ (i : Nat) (b : UInt8), t[i]? = some b → b ≠ 46 → 48 ≤ b.toNat ∧ b.toNat ≤ 57 := fun i b hbi hne46 => by
        have hi3 : i ≠ t.length - 3 := fun q => by
          rw [← q, hbi] at hpt
          exact hne46 (Option.some.inj hpt)
        have := hdig i b hbi hi3
        simpa [isDig] using this
      refine W_seq ?_
      refine W_region ?_
      refine WR_val rfl (rn_assign) ?_
      refine WR_nil ?_
      refine thenN ?_
      refine W_seq ?_
      refine W_seq ?_
      refine W_region ?_
      refine WR_val rfl (rn_assign) ?_
      refine WR_nil ?_
      refine thenN ?_
      refine W_block ?_
      refine W_loop (α := Nat) 0 (fun k => [(6, .int .i64 (k : Nat)), (5, .int .i64 (numR (t.take k))), (4, strOf t), (0, strOf l)])
        (fun k w' => k ≤ t.length ∧ 0 ≤ numR (t.take k) ∧ numR (t.take k) ≤ 10000000000009 ∧ Below w.heap.size w w') (fun k => t.length - k)
        ⟨rfl, rfl, rfl, rfl, rfl⟩ ⟨Nat.zero_le _, by simp [numR], by simp [numR], hB⟩ ?_
      rintro i f wr ⟨hi, hn0, hn1, hB⟩
      obtain ⟨b, hbi0⟩ : ∃ b, i < t.length → t[i]? = some b := ⟨t.getD i 0, fun h => by simp [List.getD_eq_getElem?_getD, List.getElem?_eq_getElem h]⟩
      obtain ⟨N, hN⟩ : ∃ N, numR (t.take i) = N := ⟨_, rfl⟩
      rw [hN] at hn0 hn1 ⊢
      refine W_seq ?_
      refine W_seq ?_
      refine W_region ?_
      refine WR_val rfl (rn_move) ?_
      refine WR_val rfl (rn_move) ?_
      refine WR_val rfl (rn_len_string (by kernel_rfl) rfl rfl) ?_
      refine WR_val rfl (rn_lss rfl rfl) ?_
      refine WR_nil ?_
      refine thenN ?_
      refine W_ifp rfl (fun hlt => ?_) (fun hlt => ?_)
      ·
        refine W_skip ?_
        refine thenN ?_
        refine W_cut (fun _ : Unit => [(6, .int .i64 (i : Nat)), (5, .int .i64 (stepR N b)), (4, strOf t), (0, strOf l)]) (fun _ w' => wr = w') ?_ ?_
        ·
          refine W_block ?_
          refine W_seq ?_
          have hbi := hbi0 (by omega)
          refine W_region ?_
          refine WR_val rfl (rn_move) ?_
          refine WR_val rfl (rn_move) ?_
          refine WR_val rfl (rn_byteS (by kernel_rfl) rfl rfl i rfl hbi) ?_
          refine WR_val rfl (rn_neq rfl rfl) ?_
          refine WR_val rfl (rn_move) ?_
          refine WR_part 26 rfl (fun hnp => ?_) (fun hnp => ?_)
          ·
            refine WR_yes rfl ?_
            refine WR_val rfl (rn_move) ?_
            refine WR_yes rfl ?_
            refine WR_val rfl (rn_leq rfl rfl) ?_
            refine WR_val rfl (rn_pick_t rfl) ?_
            refine WR_nil ?_
            refine thenN ?_
            refine W_ifp rfl (fun hle => ?_) (fun hle => ?_)
            ·
              have hne46 : b ≠ 46 := fun q => by rw [q] at hnp; exact hnp rfl
              have hd := hdg i b hbi hne46
              refine W_region ?_
              refine WR_val rfl (rn_move) ?_
              refine WR_val rfl (rn_mul rfl rfl (Coup.w64 (by omega))) ?_
              refine WR_val rfl (rn_move) ?_
              refine WR_val rfl (rn_move) ?_
              refine WR_val rfl (rn_byteS (by kernel_rfl) rfl rfl i rfl hbi) ?_
              refine WR_val rfl (rn_sub rfl rfl (show IntKind.u8.wrap ((b.toNat : Int) - 48) = (b.toNat : Int) - 48 by rw [wu8 (by omega)])) ?_
              refine WR_val rfl (rn_conv (k := .i64) (by kernel_rfl) (by kernel_rfl) rfl (Coup.w64 (by omega))) ?_
              refine WR_val rfl (rn_add rfl rfl (Coup.w64 (by omega))) ?_
              refine WR_val rfl (rn_assign) ?_
              refine WR_nil ?_
              refine blockN ?_
              refine loopN ⟨(), ⟨rfl, vi ?_, rfl, rfl, rfl⟩, rfl⟩
              rw [stepR, if_pos ⟨hne46, by omega⟩]
            ·
              refine W_skip ?_
              refine blockN ?_
              refine loopN ⟨(), ⟨rfl, vi ?_, rfl, rfl, rfl⟩, rfl⟩
              rw [stepR, if_neg (by omega)]
          ·
            refine WR_no rfl rfl ?_
            refine WR_no rfl rfl ?_
            refine WR_val rfl (rn_pick_f rfl) ?_
            refine WR_nil ?_
            refine thenN ?_
            refine W_fb rfl ((by simp)) ?_
            refine W_skip ?_
            refine blockN ?_
            refine loopN ⟨(), ⟨rfl, vi ?_, rfl, rfl, rfl⟩, rfl⟩
            have hb46 : b = 46 := u8_k (c := 46) (k := 46) (by omega) rfl
            rw [stepR, if_neg (fun q => q.1 hb46)]
        ·
          rintro - f _ rfl
          have hbi := hbi0 (by omega)
          have hst : 0 ≤ stepR N b ∧ stepR N b ≤ 10000000000009 := by
            unfold stepR
            split
            · rename_i h
              have := hdg i b hbi h.1
              omega
            · exact ⟨hn0, hn1⟩
          refine W_region ?_
          refine WR_val rfl (rn_move) ?_
          refine WR_val rfl (rn_add rfl rfl (Coup.w64 (by omega))) ?_
          refine WR_val rfl (rn_assign) ?_
          refine WR_nil ?_
          refine loopN ⟨i + 1, by omega, ⟨rfl, ?_, rfl, rfl, rfl⟩, by omega, ?_, ?_, hB⟩
          · refine vi ?_
            rw [take_snoc hbi, numR_snoc, hN]
          · rw [take_snoc hbi, numR_snoc, hN]
            exact hst.1
          · rw [take_snoc hbi, numR_snoc, hN]
            exact hst.2
      ·
        obtain rfl : i = t.length := by omega
        rw [List.take_of_length_le (by omega)] at hN
        rw [hN]
        refine W_exit ?_
        refine thenX ?_
        refine loopX ?_
        refine blockX ?_
        refine thenN ?_
        refine W_seq ?_
        refine W_seq ?_
        refine W_region ?_
        refine WR_val rfl (rn_move) ?_
        refine WR_val rfl (rn_gtr rfl rfl) ?_
        refine WR_nil ?_
        refine thenN ?_
        refine W_ifp rfl (fun hbig => ?_) (fun hbig => ?_)
        ·
          refine W_seq ?_
          refine W_region ?_
          refine WR_val rfl (rn_assign) ?_
          refine WR_val rfl (rn_assign) ?_
          refine WR_nil ?_
          refine thenN ?_
          refine W_ret ?_
          refine thenR ?_
          refine ret_ret [_, _] ⟨rfl, rfl, trivial⟩ ?_
          rw [if_pos (by omega)]
          exact ⟨Or.inr ⟨hform, rfl⟩, hB⟩
        ·
          rw [if_neg (by omega)]
          refine W_skip ?_
          refine thenN ?_
          refine W_seq ?_
          refine W_seq ?_
          refine W_region ?_
          refine WR_val rfl (rn_move) ?_
          refine WR_val rfl (rn_move) ?_
          refine WR_val rfl (rn_neqS (a := l) (b := t) rfl rfl) ?_
          refine WR_nil ?_
          refine thenN ?_
          refine W_if rfl (fun hlt2 => ?_) (fun hlt2 => ?_)
          ·
            refine W_seq ?_
            refine W_region ?_
            refine WR_val rfl (rn_move) ?_
            refine WR_val rfl (rn_neg rfl (show IntKind.i64.wrap (0 - N) = -N by rw [w64 (by omega)]; omega)) ?_
            refine WR_val rfl (rn_assign) ?_
            refine WR_val rfl (rn_assign) ?_
            refine WR_nil ?_
            refine thenN ?_
            refine W_ret ?_
            refine thenR ?_
            refine ret_ret [_, _] ⟨rfl, rfl, trivial⟩ ?_
            rw [if_pos (by simpa using hlt2)]
            exact ⟨Or.inr ⟨hform, rfl⟩, hB⟩
          ·
            rw [if_neg (by simpa using hlt2)]
            refine W_skip ?_
            refine thenN ?_
            refine W_seq ?_
            refine W_region ?_
            refine WR_val rfl (rn_move) ?_
            refine WR_val rfl (rn_assign) ?_
            refine WR_val rfl (rn_assign) ?_
            refine WR_nil ?_
            refine thenN ?_
            refine W_ret ?_
            refine ret_ret [_, _] ⟨rfl, rfl, trivial⟩ ?_
            exact ⟨Or.inr ⟨hform, rfl⟩, hB⟩
end Go.Proofs.Ytknjiohhlemeiaa
