/- The law DiskPlays, walked. -/
import Derived.Test.YtpndhildmfmcgaaDiskW
namespace Go.Proofs.Ytpndhildmfmcgaa
open Go Go.RowKit Coup

theorem shortD.step {D : Dk} {k : Nat} (h : shortD D k) (a : AcT) (h1 : 1 ≤ k) : shortD (doD D a) (k + 1) := by
  have h0 : shortD D (k + 1) := short_of h (by omega)
  have hset : ∀ (xs : List (Nat × Sec)) (D : Dk), shortD D (k + 1) → shortD (setAll D xs) (k + 1) := by
    intro xs
    induction xs with
    | nil => exact fun D h => h
    | cons x xs ih =>
      intro D h
      refine ih (setV D x.1 [x.2]) fun v hv => ?_
      rcases List.mem_or_eq_of_mem_set hv with e | e
      · exact h v e
      · rw [e]; simp
  unfold doD
  split
  · unfold writeA
    split
    · unfold writeD
      have hs : shortD (stepD D) k := fun v hv => h v (by rw [stepD_V] at hv; exact hv)
      split
      · intro v hv
        rcases List.mem_or_eq_of_mem_set hv with e | e
        · exact Nat.le_trans (hs v e) (by omega)
        · rename_i hin _
          obtain ⟨j, hj, hjl⟩ := inD_nat hin
          rw [e, List.length_append, List.length_singleton, hj, Int.toNat_natCast]
          have := h.ver hjl
          omega
      · exact short_of hs (by omega)
    · exact h0
  · split
    · unfold flushD
      split
      · intro v hv
        obtain ⟨u, _, rfl⟩ := List.mem_map.1 hv
        simp
      · intro v hv
        rw [stepD_V] at hv
        exact h0 v hv
    · split
      · unfold fuseA
        split
        · exact fun v hv => h0 v hv
        · exact h0
      · split
        · exact fun v hv => hset _ D h0 v hv
        · exact h0
def playD (D : Dk) (l : List AcT) : Dk := l.foldl doD D
theorem playD_snoc (D : Dk) (l : List AcT) {k : Nat} {a : AcT} (h : l[k]? = some a) : playD D (l.take (k + 1)) = doD (playD D (l.take k)) a := by
  rw [List.take_add_one, h]; simp [playD, List.foldl_append]
theorem newD_short (n : Nat) : shortD (newD n) 1 := fun v hv => by rw [(List.mem_replicate.1 hv).2]; simp
set_option maxRecDepth 8000 in
set_option maxHeartbeats 1000000 in
theorem diskPlaysC (n : Int) (p : Option Addr) (len cp : Nat) (R : List AcT) (w : World) (hn : wf64 n) (h : AcsAt w p len R) :
    Calls Try.prog 3 [.int .i64 n, .slice p len cp].toArray w (Ret fun v w' => v = .bool true ∧ Below w.heap.size w w') := by
  have hB := Below.refl w.heap.size w
  have hRl := h.1
  have hml : maxLen = 9223372036854775807 := by decide
  have hmax := h.max
  refine calls_W (fn := Try.f3) (rs := [.tmp 4]) (n := 72) Try.func3 rfl rfl Try.ntmps3 (by kernel_rfl) rfl ?_
  refine W_seq ?_
  refine W_region ?_
  refine WR_val rfl (rn_assign) ?_
  refine WR_nil ?_
  refine thenN ?_
  refine W_seq ?_
  refine W_seq ?_
  refine W_region ?_
  refine WR_val rfl (rn_move) ?_
  refine WR_val rfl (rn_gtr rfl rfl) ?_
  refine WR_val rfl (rn_move) ?_
  refine WR_part 13 rfl (fun h20 => ?_) (fun h20 => ?_)
  ·
    refine WR_yes rfl ?_
    refine WR_val rfl (rn_move) ?_
    refine WR_yes rfl ?_
    refine WR_val rfl (rn_leq rfl rfl) ?_
    refine WR_val rfl (rn_pick_t rfl) ?_
    refine WR_val rfl (rn_move) ?_
    refine WR_part 17 rfl (fun h81 => ?_) (fun h81 => ?_)
    ·
      refine WR_no rfl rfl ?_
      refine WR_no rfl rfl ?_
      refine WR_no rfl rfl ?_
      refine WR_val rfl (rn_pick_t rfl) ?_
      refine WR_nil ?_
      refine thenN ?_
      refine W_tb rfl (rfl) ?_
      refine W_seq ?_
      refine W_region ?_
      refine WR_ent rfl (rn_call (by kernel_rfl) rfl) (known10 w) ?_
      rintro _ w22 ⟨rfl, hb22⟩
      replace hB := hB.acc hb22
      refine WR_val rfl (rn_assign) ?_
      refine WR_nil ?_
      refine thenN ?_
      refine W_ret ?_
      refine thenR ?_
      refine ret_ret [_] ⟨rfl, trivial⟩ ?_
      exact ⟨rfl, hB⟩
    ·
      refine WR_yes rfl ?_
      refine WR_val rfl (rn_move) ?_
      refine WR_yes rfl ?_
      refine WR_ent rfl (rn_call (by kernel_rfl) rfl) (few9 p len cp 60 R w (acsBelow h hB) (by omega)) ?_
      rintro _ _ ⟨fB, rfl, hfB, rfl⟩
      refine WR_yes rfl ?_
      refine WR_val rfl (rn_not rfl) ?_
      refine WR_val rfl (rn_pick_f rfl) ?_
      refine WR_nil ?_
      refine thenN ?_
      refine W_ifnb rfl (fun hf => ?_) (fun hf => ?_)
      ·
        refine W_seq ?_
        refine W_region ?_
        refine WR_ent rfl (rn_call (by kernel_rfl) rfl) (known10 w) ?_
        rintro _ w22 ⟨rfl, hb22⟩
        replace hB := hB.acc hb22
        refine WR_val rfl (rn_assign) ?_
        refine WR_nil ?_
        refine thenN ?_
        refine W_ret ?_
        refine thenR ?_
        refine ret_ret [_] ⟨rfl, trivial⟩ ?_
        exact ⟨rfl, hB⟩
      ·
        refine W_skip ?_
        refine thenN ?_
        refine W_seq ?_
        refine W_seq ?_
        refine W_region ?_
        refine WR_val rfl (rn_move) ?_
        refine WR_val rfl (rn_lss rfl rfl) ?_
        refine WR_val rfl (rn_move) ?_
        refine WR_fp 25 rfl ((by omega)) ?_
        refine WR_yes rfl ?_
        refine WR_val rfl (rn_move) ?_
        refine WR_yes rfl ?_
        refine WR_val rfl (rn_gtr rfl rfl) ?_
        refine WR_val rfl (rn_pick_f rfl) ?_
        refine WR_nil ?_
        refine thenN ?_
        refine W_tp rfl ((by omega)) ?_
        refine W_seq ?_
        refine W_region ?_
        refine WR_val rfl (rn_move) ?_
        refine WR_ent rfl (rn_call (by kernel_rfl) rfl) (new11b n (.inr (by omega))) ?_
        rintro _ _ ⟨rfl, rfl⟩
        refine WR_val rfl (rn_move) ?_
        refine WR_val rfl (rn_extract rfl rfl) ?_
        refine WR_val rfl (rn_extract rfl rfl) ?_
        refine WR_val rfl (rn_assign) ?_
        refine WR_val rfl (rn_assign) ?_
        refine WR_nil ?_
        refine thenN ?_
        refine W_seq ?_
        refine W_region ?_
        refine WR_val rfl (rn_move) ?_
        refine WR_val rfl (rn_eqlP0 (by kernel_rfl) rfl rfl) ?_
        refine WR_val rfl (rn_move) ?_
        refine WR_tb 36 rfl (rfl) ?_
        refine WR_yes rfl ?_
        refine WR_val rfl (rn_move) ?_
        refine WR_yes rfl ?_
        refine WR_val rfl (rn_eql rfl rfl) ?_
        refine WR_val rfl (rn_pick_t rfl) ?_
        refine WR_val rfl (rn_move) ?_
        refine WR_tp 40 rfl ((by omega)) ?_
        refine WR_yes rfl ?_
        refine WR_ent rfl (rn_call (by kernel_rfl) rfl) (known10 w) ?_
        rintro _ w41 ⟨rfl, hb41⟩
        replace hB := hB.acc hb41
        refine WR_val rfl (rn_pick_t rfl) ?_
        refine WR_val rfl (rn_assign) ?_
        refine WR_nil ?_
        refine thenN ?_
        refine W_ret ?_
        refine thenR ?_
        refine ret_ret [_] ⟨rfl, trivial⟩ ?_
        exact ⟨rfl, hB⟩
  ·
    refine WR_no rfl rfl ?_
    refine WR_no rfl rfl ?_
    refine WR_val rfl (rn_pick_f rfl) ?_
    refine WR_val rfl (rn_move) ?_
    refine WR_yes rfl ?_
    refine WR_val rfl (rn_move) ?_
    refine WR_yes rfl ?_
    refine WR_ent rfl (rn_call (by kernel_rfl) rfl) (few9 p len cp 60 R w (acsBelow h hB) (by omega)) ?_
    rintro _ _ ⟨fB, rfl, hfB, rfl⟩
    refine WR_yes rfl ?_
    refine WR_val rfl (rn_not rfl) ?_
    refine WR_val rfl (rn_pick_f rfl) ?_
    refine WR_nil ?_
    refine thenN ?_
    refine W_ifnb rfl (fun hf => ?_) (fun hf => ?_)
    ·
      refine W_seq ?_
      refine W_region ?_
      refine WR_ent rfl (rn_call (by kernel_rfl) rfl) (known10 w) ?_
      rintro _ w22 ⟨rfl, hb22⟩
      replace hB := hB.acc hb22
      refine WR_val rfl (rn_assign) ?_
      refine WR_nil ?_
      refine thenN ?_
      refine W_ret ?_
      refine thenR ?_
      refine ret_ret [_] ⟨rfl, trivial⟩ ?_
      exact ⟨rfl, hB⟩
    ·
      refine W_skip ?_
      refine thenN ?_
      refine W_seq ?_
      refine W_seq ?_
      refine W_region ?_
      refine WR_val rfl (rn_move) ?_
      refine WR_val rfl (rn_lss rfl rfl) ?_
      refine WR_val rfl (rn_move) ?_
      refine WR_part 25 rfl (fun h1 => ?_) (fun h1 => ?_)
      ·
        refine WR_no rfl rfl ?_
        refine WR_no rfl rfl ?_
        refine WR_val rfl (rn_pick_t rfl) ?_
        refine WR_nil ?_
        refine thenN ?_
        refine W_tb rfl (rfl) ?_
        refine W_seq ?_
        refine W_region ?_
        refine WR_val rfl (rn_move) ?_
        refine WR_ent rfl (rn_call (by kernel_rfl) rfl) (new11b n (.inl (by omega))) ?_
        rintro _ _ ⟨rfl, rfl⟩
        refine WR_val rfl (rn_move) ?_
        refine WR_val rfl (rn_extract rfl rfl) ?_
        refine WR_val rfl (rn_extract rfl rfl) ?_
        refine WR_val rfl (rn_assign) ?_
        refine WR_val rfl (rn_assign) ?_
        refine WR_nil ?_
        refine thenN ?_
        refine W_seq ?_
        refine W_region ?_
        refine WR_val rfl (rn_move) ?_
        refine WR_val rfl (rn_eqlP0 (by kernel_rfl) rfl rfl) ?_
        refine WR_val rfl (rn_move) ?_
        refine WR_tb 36 rfl (rfl) ?_
        refine WR_yes rfl ?_
        refine WR_val rfl (rn_move) ?_
        refine WR_yes rfl ?_
        refine WR_val rfl (rn_eql rfl rfl) ?_
        refine WR_val rfl (rn_pick_t rfl) ?_
        refine WR_val rfl (rn_move) ?_
        refine WR_tp 40 rfl ((by omega)) ?_
        refine WR_yes rfl ?_
        refine WR_ent rfl (rn_call (by kernel_rfl) rfl) (known10 w) ?_
        rintro _ w41 ⟨rfl, hb41⟩
        replace hB := hB.acc hb41
        refine WR_val rfl (rn_pick_t rfl) ?_
        refine WR_val rfl (rn_assign) ?_
        refine WR_nil ?_
        refine thenN ?_
        refine W_ret ?_
        refine thenR ?_
        refine ret_ret [_] ⟨rfl, trivial⟩ ?_
        exact ⟨rfl, hB⟩
      ·
        have hobt : ∃ m : Nat, n = m := ⟨n.toNat, by omega⟩
        obtain ⟨m, rfl⟩ := hobt
        have hfw := hfB (by cases fB <;> simp_all)
        obtain ⟨hf1, hf2⟩ := hfw
        refine WR_yes rfl ?_
        refine WR_val rfl (rn_move) ?_
        refine WR_yes rfl ?_
        refine WR_val rfl (rn_gtr rfl rfl) ?_
        refine WR_val rfl (rn_pick_f rfl) ?_
        refine WR_nil ?_
        refine thenN ?_
        refine W_fp rfl ((by omega)) ?_
        refine W_skip ?_
        refine thenN ?_
        refine W_seq ?_
        refine W_region ?_
        refine WR_val rfl (rn_move) ?_
        refine WR_ent rfl (rn_call (by kernel_rfl) rfl) (begin12 m w (by omega) (by omega)) ?_
        rintro _ w45 ⟨g, h', rfl, hD, hb45⟩
        replace hB := hB.acc hb45
        refine WR_val rfl (rn_move) ?_
        refine WR_val rfl (rn_extract rfl rfl) ?_
        refine WR_val rfl (rn_extract rfl rfl) ?_
        refine WR_val rfl (rn_extract rfl rfl) ?_
        refine WR_val rfl (rn_assign) ?_
        refine WR_val rfl (rn_assign) ?_
        refine WR_val rfl (rn_assign) ?_
        refine WR_nil ?_
        refine thenN ?_
        refine W_seq ?_
        refine W_seq ?_
        refine W_region ?_
        refine WR_val rfl (rn_move) ?_
        refine WR_val rfl (rn_not rfl) ?_
        refine WR_nil ?_
        refine thenN ?_
        refine W_fnb rfl (rfl) ?_
        refine W_skip ?_
        refine thenN ?_
        refine W_seq ?_
        refine W_seq ?_
        refine W_region ?_
        refine WR_val rfl (rn_assign) ?_
        refine WR_nil ?_
        refine thenN ?_
        refine W_block ?_
        have hlo := hD.lo
        have hq0 : ∀ (q : Option Addr) (l : List Int), SlAt w q l.length 1 (iv l) → 0 < l.length → ∀ b o, q = some ⟨b, o, none⟩ → b < w.heap.size := fun q l hs h0 b o e => by
          have hobt := hs.some (by omega)
          obtain ⟨g', o', e', hl⟩ := hobt
          rw [e'] at e; cases e; exact hl
        refine W_loop (α := Nat) 0 (fun i => [(10, .int .i64 (i : Nat)), (1, .slice p len cp), (7, .pointer (some ⟨g, 0, none⟩)), (8, .pointer (some ⟨h', 0, none⟩))])
          (fun i w' => i ≤ len ∧ Two (DZ g (playD (newD m) (R.take i))) (RZ h' (playD (newD m) (R.take i))) w.heap.size [] w' ∧ shortD (playD (newD m) (R.take i)) (i + 1) ∧ Below w.heap.size w w') (fun i => len - i)
          ⟨rfl, rfl, rfl, rfl, rfl⟩ ⟨Nat.zero_le _, hD, newD_short m, hB⟩ ?_
        clear hD hB
        rintro i f wr ⟨hi, hD, hsh, hB⟩
        refine W_seq ?_
        refine W_seq ?_
        refine W_region ?_
        refine WR_val rfl (rn_move) ?_
        refine WR_val rfl (rn_move) ?_
        refine WR_val rfl (rn_lenSl (e := 37) (sz := 132) (by kernel_rfl) rfl rfl) ?_
        refine WR_val rfl (rn_lss rfl rfl) ?_
        refine WR_nil ?_
        refine thenN ?_
        refine W_ifp rfl (fun hlt => ?_) (fun hlt => ?_)
        ·
          refine W_skip ?_
          refine thenN ?_
          refine W_seq ?_
          refine W_block ?_
          refine W_seq ?_
          have hobt := h.get (i := i) (by omega)
          obtain ⟨a, hx⟩ := hobt
          have hobt := h.some (by omega)
          obtain ⟨gp, op, rfl, _⟩ := hobt
          have hps := playD_snoc (newD m) R hx
          have hs2 := hsh.step a (by omega)
          rw [← hps] at hs2
          have hle := h.ldB (P := Try.prog) (t := 37) (by kernel_rfl) (by kernel_rfl) hx
          obtain ⟨cs, ⟨q, qc, rfl, e2, e3, e4, _, _, hn3, _⟩, hcl, hld⟩ := hle
          refine W_region ?_
          refine WR_val rfl (rn_move) ?_
          refine WR_val rfl (rn_move) ?_
          refine WR_val rfl (rn_move) ?_
          refine WR_val rfl (rn_move) ?_
          refine WR_val rfl (rn_indexSl (e := 37) (sz := 132) (by kernel_rfl) rfl rfl (i) (by omega) (by omega)) ?_
          refine WR_val rfl (rn_load rfl ((hld _ hB).1)) ?_
          refine WR_ent rfl (rn_call (by kernel_rfl) rfl) (do13 hD a q qc e2 hn3.2 (e3.below hB (Nat.le_refl _)) (fun h0 b o e ↦ .inl (hq0 q a.picks e3 h0 b o e)) (short_of hsh (by omega))) ?_
          rintro _ w63 ⟨rfl, hD, hb63⟩
          replace hB := belLL hB hb63 (by omega)
          rw [← hps] at hD
          refine WR_val rfl (rn_not rfl) ?_
          refine WR_val rfl (rn_move) ?_
          refine WR_fnb 65 rfl (rfl) ?_
          refine WR_yes rfl ?_
          refine WR_val rfl (rn_move) ?_
          refine WR_yes rfl ?_
          refine WR_val rfl (rn_move) ?_
          refine WR_yes rfl ?_
          refine WR_ent rfl (rn_call (by kernel_rfl) rfl) (same14 hD) ?_
          rintro _ w68 ⟨rfl, hb68⟩
          replace hD := hD.new hb68
          replace hB := hB.acc hb68
          refine WR_yes rfl ?_
          refine WR_val rfl (rn_not rfl) ?_
          refine WR_val rfl (rn_pick_f rfl) ?_
          refine WR_nil ?_
          refine thenN ?_
          refine W_fnb rfl (rfl) ?_
          refine W_skip ?_
          refine blockN ?_
          refine thenN ?_
          refine W_region ?_
          refine WR_val rfl (rn_move) ?_
          refine WR_val rfl (rn_add rfl rfl (Coup.w64 (by omega))) ?_
          refine WR_val rfl (rn_assign) ?_
          refine WR_nil ?_
          refine loopN ⟨i + 1, by omega, ⟨by go_num, rfl, rfl, rfl, rfl⟩, by omega, hD, hs2, hB⟩
        ·
          refine W_exit ?_
          refine thenX ?_
          refine loopX ?_
          refine blockX ?_
          refine thenN ?_
          refine W_seq ?_
          refine W_region ?_
          refine WR_ent rfl (rn_call (by kernel_rfl) rfl) (known10 wr) ?_
          rintro _ w71 ⟨rfl, hb71⟩
          replace hD := hD.new hb71
          replace hB := hB.acc hb71
          refine WR_val rfl (rn_assign) ?_
          refine WR_nil ?_
          refine thenN ?_
          refine W_ret ?_
          refine ret_ret [_] ⟨rfl, trivial⟩ ?_
          exact ⟨rfl, hB⟩
end Go.Proofs.Ytpndhildmfmcgaa
