/- An amount of a text: the code's own way. -/
import Derived.Test.YtknjiohhlemeiaaFareP
namespace Go.Proofs.Ytknjiohhlemeiaa
open Go Go.RowKit Coup

def cutS (l : List UInt8) (c : UInt8) : List UInt8 × List UInt8 × Bool := if 0 ≤ Lib.indexByte l c then (l.take (Lib.indexByte l c).toNat, l.drop ((Lib.indexByte l c).toNat + 1), true) else (l, [], false)
theorem cut35 (l : List UInt8) (c : UInt8) (w : World) (hl : l.length ≤ 1000000) : Calls Try.prog 35 [strOf l, strOf [c]].toArray w (Ret fun v w' => v = .tuple #[strOf (cutS l c).1, strOf (cutS l c).2.1, .bool (cutS l c).2.2] ∧ Below w.heap.size w w') := by
  have hB := Below.refl w.heap.size w
  have h44 : Calls Try.prog 44 [strOf l, strOf [c]].toArray w (Ret fun v w' => v = .tuple #[strOf (cutS l c).1, strOf (cutS l c).2.1, .bool (cutS l c).2.2] ∧ Below w.heap.size w w') := (cut44 l c w hl).to fun v w' h => by
    rcases h with ⟨i, h1, h2, h3, h4⟩ | ⟨h1, h2, h3⟩
    · refine ⟨?_, h4⟩
      rw [cutS, if_pos (by omega), h1, Int.toNat_natCast]; exact h3
    · refine ⟨?_, h3⟩
      rw [cutS, if_neg (by omega)]; exact h2
  refine calls_W (fn := Try.f35) (rs := [.tmp 4, .tmp 5, .tmp 6]) (n := 13) Try.func35 rfl rfl Try.ntmps35 (by kernel_rfl) rfl ?_
  refine W_seq ?_
  refine W_region ?_
  refine WR_val rfl (rn_assign) ?_
  refine WR_val rfl (rn_assign) ?_
  refine WR_val rfl (rn_assign) ?_
  refine WR_nil ?_
  refine thenN ?_
  refine W_seq ?_
  refine W_region ?_
  refine WR_val rfl (rn_move) ?_
  refine WR_val rfl (rn_move) ?_
  refine WR_ent rfl (rn_call (by kernel_rfl) rfl) (h44) ?_
  rintro _ w9 ⟨rfl, hb9⟩
  replace hB := hB.acc hb9
  refine WR_val rfl (rn_extract rfl rfl) ?_
  refine WR_val rfl (rn_extract rfl rfl) ?_
  refine WR_val rfl (rn_extract rfl rfl) ?_
  refine WR_val rfl (rn_assign) ?_
  refine WR_val rfl (rn_assign) ?_
  refine WR_val rfl (rn_assign) ?_
  refine WR_nil ?_
  refine thenN ?_
  refine W_ret ?_
  refine ret_ret [_, _, _] ⟨rfl, rfl, rfl, trivial⟩ ?_
  exact ⟨rfl, hB⟩
def minN (a b : Int) : Int := min (100 * a + b - 100) 1000000000001
/-- The parts of a text: below 0, what is ahead of the point, what behind it, was there one. -/
def partsS (l : List UInt8) : Bool × List UInt8 × List UInt8 × Bool := (Lib.hasPrefix l [45], cutS (Lib.trimPrefix l [45]) 46)
def ofP (q : Bool × List UInt8 × List UInt8 × Bool) : Int × Int :=
  if (!q.2.2.2 || !(wholeS q.2.1).2 || !(wholeS (49 :: q.2.2.1)).2 || decide (q.2.2.1.length ≠ 2) || (q.1 && decide (minN (wholeS q.2.1).1 (wholeS (49 :: q.2.2.1)).1 = 0))) = true then (0, 4)
  else if 1000000000000 < minN (wholeS q.2.1).1 (wholeS (49 :: q.2.2.1)).1 then (0, 14)
  else if q.1 = true then (-minN (wholeS q.2.1).1 (wholeS (49 :: q.2.2.1)).1, 0) else (minN (wholeS q.2.1).1 (wholeS (49 :: q.2.2.1)).1, 0)
def ofS (l : List UInt8) : Int × Int := ofP (partsS l)
theorem cutPrefixC (l p : List UInt8) (w : World) : Calls Try.prog 34 [strOf l, strOf p].toArray w (Ret fun v w' => v = .tuple #[strOf (Lib.trimPrefix l p), .bool (Lib.hasPrefix l p)] ∧ w = w') :=
  (calls_ret (Try.strings_CutPrefix ⟨l.toArray⟩ ⟨p.toArray⟩ w)).to fun v w' h => ⟨h.1, h.2.symm⟩
theorem trim_len (l p : List UInt8) : (Lib.trimPrefix l p).length ≤ l.length := by
  unfold Lib.trimPrefix
  split
  · simp
  · exact Nat.le_refl _
theorem cutS_len (l : List UInt8) (c : UInt8) : (cutS l c).1.length ≤ l.length ∧ (cutS l c).2.1.length ≤ l.length := by
  unfold cutS
  split
  · exact ⟨by simp; omega, by simp⟩
  · exact ⟨Nat.le_refl _, by simp⟩
theorem wholeS_bounds (l : List UInt8) : 0 ≤ (wholeS l).1 ∧ (wholeS l).1 ≤ 1000000000001 := by
  unfold wholeS
  split
  · rename_i h; exact numD_bounds l 0 (by decide) h
  · decide
theorem of21 (l : List UInt8) (w : World) (hl : l.length ≤ 100000) : Calls Try.prog 21 [strOf l].toArray w (Ret fun v w' => v = .tuple #[.int .i64 (ofS l).1, .int .i64 (ofS l).2] ∧ Below w.heap.size w w') := by
  have hB := Below.refl w.heap.size w
  have htl := trim_len l [45]
  obtain ⟨be, hbe⟩ : ∃ b, b = Lib.hasPrefix l [45] := ⟨_, rfl⟩
  obtain ⟨rest, hrest⟩ : ∃ r, r = Lib.trimPrefix l [45] := ⟨_, rfl⟩
  have hcl := cutS_len rest 46
  obtain ⟨u, c, p, hc⟩ : ∃ u c p, cutS rest 46 = (u, c, p) := ⟨_, _, _, rfl⟩
  have hO : ofS l = ofP (be, u, c, p) := by rw [ofS, partsS, ← hbe, ← hrest, hc]
  rw [hO]
  rw [hc] at hcl
  simp only at hcl
  rw [← hrest] at htl
  have hA := wholeS_bounds u
  have hC := wholeS_bounds (49 :: c)
  obtain ⟨A, a2, hAe⟩ : ∃ A a2, wholeS u = (A, a2) := ⟨_, _, rfl⟩
  obtain ⟨C, c2, hCe⟩ : ∃ C c2, wholeS (49 :: c) = (C, c2) := ⟨_, _, rfl⟩
  rw [hAe] at hA
  rw [hCe] at hC
  simp only at hA hC
  obtain ⟨M, hM⟩ : ∃ M, M = minN A C := ⟨_, rfl⟩
  have hMb : -100 ≤ M ∧ M ≤ 1000000000001 := by rw [hM]; unfold minN; omega
  obtain ⟨bad, hbad⟩ : ∃ b, b = (!p || !a2 || !c2 || decide (c.length ≠ 2) || (be && decide (M = 0))) := ⟨_, rfl⟩
  have hP : ofP (be, u, c, p) = if bad = true then (0, 4) else if 1000000000000 < M then (0, 14) else if be = true then (-M, 0) else (M, 0) := by
    simp only [ofP, hAe, hCe, hbad, hM]
  rw [hP]
  refine calls_W (fn := Try.f21) (rs := [.tmp 2, .tmp 3]) (n := 72) Try.func21 rfl rfl Try.ntmps21 (by kernel_rfl) rfl ?_
  refine W_seq ?_
  refine W_region ?_
  refine WR_val rfl (rn_assign) ?_
  refine WR_val rfl (rn_assign) ?_
  refine WR_nil ?_
  refine thenN ?_
  refine W_seq ?_
  refine W_region ?_
  refine WR_val rfl (rn_move) ?_
  refine WR_ent rfl (rn_call (by kernel_rfl) rfl) ((cutPrefixC l [45] w)) ?_
  rintro _ _ ⟨rfl, rfl⟩
  refine WR_val rfl (rn_move) ?_
  refine WR_val rfl (rn_extract (v := strOf rest) rfl (by rw [hrest]; rfl)) ?_
  refine WR_val rfl (rn_extract (v := .bool be) rfl (by rw [hbe]; rfl)) ?_
  refine WR_val rfl (rn_assign) ?_
  refine WR_val rfl (rn_assign) ?_
  refine WR_nil ?_
  refine thenN ?_
  refine W_seq ?_
  refine W_region ?_
  refine WR_val rfl (rn_move) ?_
  refine WR_ent rfl (rn_call (by kernel_rfl) rfl) ((cut35 rest 46 w (by omega))) ?_
  rintro _ w20 ⟨rfl, hb20⟩
  replace hB := hB.acc hb20
  refine WR_val rfl (rn_move) ?_
  refine WR_val rfl (rn_extract (v := strOf u) rfl (by rw [hc]; rfl)) ?_
  refine WR_val rfl (rn_extract (v := strOf c) rfl (by rw [hc]; rfl)) ?_
  refine WR_val rfl (rn_extract (v := .bool p) rfl (by rw [hc]; rfl)) ?_
  refine WR_val rfl (rn_assign) ?_
  refine WR_val rfl (rn_assign) ?_
  refine WR_val rfl (rn_assign) ?_
  refine WR_nil ?_
  refine thenN ?_
  refine W_seq ?_
  refine W_region ?_
  refine WR_val rfl (rn_move) ?_
  refine WR_ent rfl (rn_call (by kernel_rfl) rfl) ((whole36 u w20)) ?_
  rintro _ w26 ⟨rfl, hb26⟩
  replace hB := hB.acc hb26
  refine WR_val rfl (rn_move) ?_
  refine WR_val rfl (rn_extract (v := .int .i64 A) rfl (by rw [hAe]; rfl)) ?_
  refine WR_val rfl (rn_extract (v := .bool a2) rfl (by rw [hAe]; rfl)) ?_
  refine WR_val rfl (rn_assign) ?_
  refine WR_val rfl (rn_assign) ?_
  refine WR_nil ?_
  refine thenN ?_
  refine W_seq ?_
  refine W_region ?_
  refine WR_val rfl (rn_move) ?_
  refine WR_val rfl (rn_adds (a := [49]) (b := c) rfl rfl (by simp; omega)) ?_
  refine WR_ent rfl (rn_call (by kernel_rfl) rfl) ((whole36 (49 :: c) w26)) ?_
  rintro _ w32 ⟨rfl, hb32⟩
  replace hB := hB.acc hb32
  refine WR_val rfl (rn_move) ?_
  refine WR_val rfl (rn_extract (v := .int .i64 C) rfl (by rw [hCe]; rfl)) ?_
  refine WR_val rfl (rn_extract (v := .bool c2) rfl (by rw [hCe]; rfl)) ?_
  refine WR_val rfl (rn_assign) ?_
  refine WR_val rfl (rn_assign) ?_
  refine WR_nil ?_
  refine thenN ?_
  refine W_seq ?_
  refine W_region ?_
  refine WR_val rfl (rn_move) ?_
  refine WR_val rfl (rn_mul rfl rfl (Coup.w64 (by omega))) ?_
  refine WR_val rfl (rn_move) ?_
  refine WR_val rfl (rn_add rfl rfl (Coup.w64 (by omega))) ?_
  refine WR_val rfl (rn_sub rfl rfl (Coup.w64 (by omega))) ?_
  refine WR_val rfl (rn_min2 rfl rfl) ?_
  refine WR_val rfl (rn_assign) ?_
  refine WR_nil ?_
  refine thenN ?_
  refine W_seq ?_
  refine W_block ?_
  refine W_cut (fun _ : Unit => [(41, .bool bad), (5, .bool be), (9, .int .i64 M)]) (fun _ w' => w32 = w') ?_ ?_
  ·
    refine W_region ?_
    refine WR_val rfl (rn_move) ?_
    refine WR_val rfl (rn_not rfl) ?_
    refine WR_val rfl (rn_move) ?_
    refine WR_partnb 44 rfl (fun hp => ?_) (fun hp => ?_)
    ·
      refine WR_no rfl rfl ?_
      refine WR_no rfl rfl ?_
      refine WR_val rfl (rn_pick_t rfl) ?_
      refine WR_val rfl (rn_move) ?_
      refine WR_no rfl rfl ?_
      refine WR_no rfl rfl ?_
      refine WR_val rfl (rn_pick_t rfl) ?_
      refine WR_val rfl (rn_move) ?_
      refine WR_no rfl rfl ?_
      refine WR_no rfl rfl ?_
      refine WR_no rfl rfl ?_
      refine WR_val rfl (rn_pick_t rfl) ?_
      refine WR_val rfl (rn_move) ?_
      refine WR_no rfl rfl ?_
      refine WR_no rfl rfl ?_
      refine WR_nou rfl ?_
      refine WR_nou rfl ?_
      refine WR_no rfl rfl ?_
      refine WR_val rfl (rn_pick_t rfl) ?_
      refine WR_val rfl (rn_assign) ?_
      refine WR_nil ?_
      refine loopN ⟨(), ⟨vb (show true = bad by rw [hbad, hp]; rfl), rfl, vi hM.symm, rfl⟩, rfl⟩
    ·
      refine WR_yes rfl ?_
      refine WR_val rfl (rn_move) ?_
      refine WR_yes rfl ?_
      refine WR_val rfl (rn_not rfl) ?_
      refine WR_val rfl (rn_pick_f rfl) ?_
      refine WR_val rfl (rn_move) ?_
      refine WR_partnb 48 rfl (fun ha => ?_) (fun ha => ?_)
      ·
        refine WR_no rfl rfl ?_
        refine WR_no rfl rfl ?_
        refine WR_val rfl (rn_pick_t rfl) ?_
        refine WR_val rfl (rn_move) ?_
        refine WR_no rfl rfl ?_
        refine WR_no rfl rfl ?_
        refine WR_no rfl rfl ?_
        refine WR_val rfl (rn_pick_t rfl) ?_
        refine WR_val rfl (rn_move) ?_
        refine WR_no rfl rfl ?_
        refine WR_no rfl rfl ?_
        refine WR_nou rfl ?_
        refine WR_nou rfl ?_
        refine WR_no rfl rfl ?_
        refine WR_val rfl (rn_pick_t rfl) ?_
        refine WR_val rfl (rn_assign) ?_
        refine WR_nil ?_
        refine loopN ⟨(), ⟨vb (show true = bad by rw [hbad, hp, ha]; rfl), rfl, vi hM.symm, rfl⟩, rfl⟩
      ·
        refine WR_yes rfl ?_
        refine WR_val rfl (rn_move) ?_
        refine WR_yes rfl ?_
        refine WR_val rfl (rn_not rfl) ?_
        refine WR_val rfl (rn_pick_f rfl) ?_
        refine WR_val rfl (rn_move) ?_
        refine WR_partnb 52 rfl (fun hc2 => ?_) (fun hc2 => ?_)
        ·
          refine WR_no rfl rfl ?_
          refine WR_no rfl rfl ?_
          refine WR_no rfl rfl ?_
          refine WR_val rfl (rn_pick_t rfl) ?_
          refine WR_val rfl (rn_move) ?_
          refine WR_no rfl rfl ?_
          refine WR_no rfl rfl ?_
          refine WR_nou rfl ?_
          refine WR_nou rfl ?_
          refine WR_no rfl rfl ?_
          refine WR_val rfl (rn_pick_t rfl) ?_
          refine WR_val rfl (rn_assign) ?_
          refine WR_nil ?_
          refine loopN ⟨(), ⟨vb (show true = bad by rw [hbad, hp, ha, hc2]; rfl), rfl, vi hM.symm, rfl⟩, rfl⟩
        ·
          refine WR_yes rfl ?_
          refine WR_val rfl (rn_move) ?_
          refine WR_yes rfl ?_
          refine WR_val rfl (rn_len_string (by kernel_rfl) rfl rfl) ?_
          refine WR_yes rfl ?_
          refine WR_val rfl (rn_neq rfl rfl) ?_
          refine WR_val rfl (rn_pick_f rfl) ?_
          refine WR_val rfl (rn_move) ?_
          refine WR_part 57 rfl (fun hlen => ?_) (fun hlen => ?_)
          ·
            refine WR_no rfl rfl ?_
            refine WR_no rfl rfl ?_
            refine WR_nou rfl ?_
            refine WR_nou rfl ?_
            refine WR_no rfl rfl ?_
            refine WR_val rfl (rn_pick_t rfl) ?_
            refine WR_val rfl (rn_assign) ?_
            refine WR_nil ?_
            refine loopN ⟨(), ⟨vb (show true = bad by rw [hbad, hp, ha, hc2, decide_eq_true (show c.length ≠ 2 by omega)]; rfl), rfl, vi hM.symm, rfl⟩, rfl⟩
          ·
            have hlen2 : ¬ c.length ≠ 2 := by omega
            refine WR_yes rfl ?_
            refine WR_val rfl (rn_move) ?_
            refine WR_yes rfl ?_
            refine WR_val rfl (rn_move) ?_
            refine WR_partb 59 rfl (fun hb2 => ?_) (fun hb2 => ?_)
            ·
              refine WR_yes rfl ?_
              refine WR_val rfl (rn_move) ?_
              refine WR_yes rfl ?_
              refine WR_val rfl (rn_eql rfl rfl) ?_
              refine WR_yes rfl ?_
              refine WR_val rfl (rn_pick_t rfl) ?_
              refine WR_val rfl (rn_pick_f rfl) ?_
              refine WR_val rfl (rn_assign) ?_
              refine WR_nil ?_
              refine loopN ⟨(), ⟨vb (show decide (minN A C = 0) = bad by rw [hbad, hp, ha, hc2, decide_eq_false hlen2, hb2, hM]; rfl), rfl, vi hM.symm, rfl⟩, rfl⟩
            ·
              refine WR_no rfl rfl ?_
              refine WR_no rfl rfl ?_
              refine WR_yes rfl ?_
              refine WR_val rfl (rn_pick_f rfl) ?_
              refine WR_val rfl (rn_pick_f rfl) ?_
              refine WR_val rfl (rn_assign) ?_
              refine WR_nil ?_
              refine loopN ⟨(), ⟨vb (show false = bad by rw [hbad, hp, ha, hc2, decide_eq_false hlen2, hb2]; rfl), rfl, vi hM.symm, rfl⟩, rfl⟩
  ·
    rintro - f _ rfl
    refine W_if rfl (fun hb => ?_) (fun hb => ?_)
    ·
      refine W_seq ?_
      refine W_region ?_
      refine WR_val rfl (rn_assign) ?_
      refine WR_val rfl (rn_assign) ?_
      refine WR_nil ?_
      refine thenN ?_
      refine W_ret ?_
      refine blockR ?_
      refine thenR ?_
      refine ret_ret [_, _] ⟨rfl, rfl, trivial⟩ ?_
      rw [if_pos hb]
      exact ⟨rfl, hB⟩
    ·
      rw [if_neg (by rw [hb]; simp)]
      refine W_seq ?_
      refine W_region ?_
      refine WR_val rfl (rn_move) ?_
      refine WR_val rfl (rn_gtr rfl rfl) ?_
      refine WR_val rfl (rn_assign) ?_
      refine WR_nil ?_
      refine thenN ?_
      refine W_ifp rfl (fun hbig => ?_) (fun hbig => ?_)
      ·
        refine W_seq ?_
        refine W_region ?_
        refine WR_val rfl (rn_assign) ?_
        refine WR_val rfl (rn_assign) ?_
        refine WR_nil ?_
        refine thenN ?_
        refine W_ret ?_
        refine blockR ?_
        refine thenR ?_
        refine ret_ret [_, _] ⟨rfl, rfl, trivial⟩ ?_
        rw [if_pos hbig]
        exact ⟨rfl, hB⟩
      ·
        rw [if_neg hbig]
        refine W_seq ?_
        refine W_region ?_
        refine WR_val rfl (rn_move) ?_
        refine WR_val rfl (rn_assign) ?_
        refine WR_nil ?_
        refine thenN ?_
        refine W_if rfl (fun hb2 => ?_) (fun hb2 => ?_)
        ·
          refine W_seq ?_
          refine W_region ?_
          refine WR_val rfl (rn_move) ?_
          refine WR_val rfl (rn_neg rfl (Coup.w64 (by omega))) ?_
          refine WR_val rfl (rn_assign) ?_
          refine WR_val rfl (rn_assign) ?_
          refine WR_nil ?_
          refine thenN ?_
          refine W_ret ?_
          refine blockR ?_
          refine thenR ?_
          refine ret_ret [_, _] ⟨rfl, rfl, trivial⟩ ?_
          rw [if_pos hb2]
          exact ⟨congrArg (fun q => Value.tuple #[.int .i64 q, .int .i64 0]) (show (0 - M) = -M by omega), hB⟩
        ·
          rw [if_neg (by rw [hb2]; simp)]
          refine W_skip ?_
          refine blockN ?_
          refine thenN ?_
          refine W_seq ?_
          refine W_region ?_
          refine WR_val rfl (rn_move) ?_
          refine WR_val rfl (rn_assign) ?_
          refine WR_val rfl (rn_assign) ?_
          refine WR_nil ?_
          refine thenN ?_
          refine W_ret ?_
          refine ret_ret [_, _] ⟨rfl, rfl, trivial⟩ ?_
          exact ⟨rfl, hB⟩
end Go.Proofs.Ytknjiohhlemeiaa
