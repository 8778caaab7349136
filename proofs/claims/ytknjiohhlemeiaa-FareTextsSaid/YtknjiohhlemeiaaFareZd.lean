/- The law FareTexts. -/
import Derived.Test.YtknjiohhlemeiaaFareZc
namespace Go.Proofs.Ytknjiohhlemeiaa
open Go Go.RowKit Coup

theorem dg_dig {d : Nat} (h : d < 10) : isDig (dg d) = true := by simp [isDig, dg_nat h]; omega
theorem dgs_dig : ∀ j n, ∀ b ∈ dgs j n, isDig b = true
  | 0, n, b, hb => by simp [dgs] at hb
  | j + 1, n, b, hb => by
    rcases List.mem_cons.1 hb with rfl | hb
    · exact dg_dig (Nat.mod_lt _ (by decide))
    · exact dgs_dig j n b hb
theorem dgs_val : ∀ (j n : Nat) (a : Int), (dgs j n).foldl vst a = a * ((10 ^ j : Nat) : Int) + ((n % 10 ^ j : Nat) : Int)
  | 0, n, a => by simp [dgs, Nat.mod_one]
  | j + 1, n, a => by
    simp only [dgs, List.foldl_cons]
    rw [dgs_val j n, vst, dg_nat (Nat.mod_lt _ (by decide))]
    have e : n % 10 ^ (j + 1) = n % 10 ^ j + 10 ^ j * (n / 10 ^ j % 10) := by rw [Nat.pow_succ, Nat.mod_mul]
    rw [e, Nat.pow_succ]
    generalize n / 10 ^ j % 10 = d
    generalize 10 ^ j = p
    generalize n % p = r
    have : ((48 + d : Nat) : Int) - 48 = (d : Int) := by omega
    rw [this, Int.add_mul, Int.natCast_add, Int.natCast_mul, Int.natCast_mul, Int.mul_comm (d : Int), ← Int.mul_assoc a, Int.mul_assoc 10 a, Int.mul_comm 10]
    have : ((10 : Nat) : Int) = 10 := rfl
    rw [this]; omega
theorem dgs_head (M : Nat) (hM : M ≤ 1000000000000) : headOk (dgs (lenF 13 M 1) M) = true := by
  have h := len_is hM 1
  obtain ⟨k, hk⟩ : ∃ k, lenF 13 M 1 = k + 1 := ⟨lenF 13 M 1 - 1, by have := h.1; omega⟩
  rw [hk] at h ⊢
  refine headOk_iff.2 ⟨by simp [dgs], ?_⟩
  have hlt : M / 10 ^ k < 10 := by
    have := h.2.1
    rw [← div_step] at this
    omega
  by_cases h0 : k = 0
  · subst h0
    by_cases hz : M = 0
    · left; subst hz; rfl
    · right
      simp only [dgs, List.head?_cons]
      intro q
      have q := congrArg UInt8.toNat (Option.some.inj q)
      rw [dg_nat (Nat.mod_lt _ (by decide))] at q
      have : (48 : UInt8).toNat = 48 := rfl
      simp at q hlt
      omega
  · right
    simp only [dgs, List.head?_cons]
    intro q
    have q := congrArg UInt8.toNat (Option.some.inj q)
    rw [dg_nat (Nat.mod_lt _ (by decide))] at q
    have e : (48 : UInt8).toNat = 48 := rfl
    rw [e] at q
    have hne := h.2.2 k (by omega) (by omega)
    generalize M / 10 ^ k = X at *
    omega
theorem text_parts (neg : Bool) (N : Nat) (hN : N ≤ 1000000000000) (hn : neg = true → N ≠ 0) :
    PartsR ((if neg = true then [45] else []) ++ textP N) (dgs (lenF 13 (N / 100) 1) (N / 100)) (dgs 2 (N % 100)) ∧ (((if neg = true then [45] else []) ++ textP N) ≠ tlR ((if neg = true then [45] else []) ++ textP N) ↔ neg = true) := by
  have h3 := len_is (m := N % 100) (by omega) 2
  have e3 : lenF 13 (N % 100) 2 = 2 := h3.uniq ⟨Nat.le_refl _, by omega, fun i a b => by omega⟩
  have hT := textP_dgs hN
  rw [e3] at hT
  have hh := dgs_head (N / 100) (by omega)
  have hd := dgs_dig (lenF 13 (N / 100) 1) (N / 100)
  have hv := dgs_val (lenF 13 (N / 100) 1) (N / 100) 0
  have hm := (len_is (m := N / 100) (by omega) 1).2.1
  generalize hu : dgs (lenF 13 (N / 100) 1) (N / 100) = u at *
  have htl : tlR ((if neg = true then [45] else []) ++ textP N) = textP N := by
    cases neg with
    | true => rfl
    | false =>
      have hu0 := (headOk_iff.1 hh).1
      cases u with
      | nil => exact absurd rfl hu0
      | cons x u =>
        have hx := dig_le (hd x (by simp))
        rw [hT]
        have : x ≠ 45 := fun q => by rw [q] at hx; exact absurd hx.1 (by decide)
        simp [tlR, this]
  refine ⟨⟨?_, hd, dgs_dig 2 _, dgs_len 2 _, hh, fun q => ?_⟩, ?_⟩
  · rw [htl, hT]; simp
  · rw [q] at htl
    have e : textP N = [48, 46, 48, 48] := by rw [← htl]; rfl
    have hneg : neg = true := by
      cases neg with
      | true => rfl
      | false => rw [e] at q; simp at q
    refine hn hneg ?_
    rw [hT] at e
    have hul : u.length = 1 := by
      have := congrArg List.length e
      simp [dgs] at this; omega
    obtain ⟨x, rfl⟩ := List.length_eq_one_iff.1 hul
    simp only [dgs, List.cons_append, List.nil_append, List.cons.injEq, and_true, true_and] at e
    have e1 := congrArg UInt8.toNat e.1
    have e2 := congrArg UInt8.toNat e.2.1
    have e4 := congrArg UInt8.toNat e.2.2
    rw [dg_nat (Nat.mod_lt _ (by decide))] at e2 e4
    have : (48 : UInt8).toNat = 48 := rfl
    rw [this] at e1 e2 e4
    simp only [List.foldl_cons, List.foldl_nil, vst] at hv
    have hmod : N / 100 % 10 ^ lenF 13 (N / 100) 1 = N / 100 := Nat.mod_eq_of_lt (by
      have hp : 0 < 10 ^ lenF 13 (N / 100) 1 := Nat.pow_pos (by decide)
      exact (Nat.div_eq_zero_iff_lt hp).1 hm)
    rw [hmod] at hv
    simp at e2 e4
    omega
  · rw [htl]
    cases neg with
    | true => simp
    | false => simp
theorem of_text {n : Int} (hn : mayM n = true) : ofS (textS n) = (n, 0) := by
  have hb := mayM_iff.1 hn
  obtain ⟨neg, hneg⟩ : ∃ neg : Bool, neg = decide (n < 0) := ⟨_, rfl⟩
  obtain ⟨N, hN⟩ : ∃ N : Nat, n.natAbs = N := ⟨_, rfl⟩
  have hT : textS n = (if neg = true then [45] else []) ++ textP N := by
    rw [textS, if_pos hn, textZ, hneg]
    by_cases h : n < 0
    · rw [if_pos h, decide_eq_true h, show (-n).toNat = N by omega]; rfl
    · rw [if_neg h, decide_eq_false h, show n.toNat = N by omega]; rfl
  have hNb : N ≤ 1000000000000 := by omega
  obtain ⟨hp, hs⟩ := text_parts neg N hNb (fun h => by rw [hneg] at h; have := of_decide_eq_true h; omega)
  rw [hT]
  generalize (if neg = true then [45] else []) ++ textP N = l at *
  have hv := dgs_val (lenF 13 (N / 100) 1) (N / 100) 0
  have hm := (len_is (m := N / 100) (by omega) 1).2.1
  have hmod : N / 100 % 10 ^ lenF 13 (N / 100) 1 = N / 100 := Nat.mod_eq_of_lt (by
    have hp : 0 < 10 ^ lenF 13 (N / 100) 1 := Nat.pow_pos (by decide)
    exact (Nat.div_eq_zero_iff_lt hp).1 hm)
  rw [hmod, Int.zero_mul, Int.zero_add] at hv
  have hc : dgs 2 (N % 100) = [dg (N % 100 / 10 ^ 1 % 10), dg (N % 100 / 10 ^ 0 % 10)] := rfl
  rw [hc] at hp
  rw [ofS_parts hp, valD, hv, dg_nat (Nat.mod_lt _ (by decide)), dg_nat (Nat.mod_lt _ (by decide))]
  have e : 100 * ((N / 100 : Nat) : Int) + (10 * (((48 + N % 100 / 10 ^ 1 % 10 : Nat) : Int) - 48) + (((48 + N % 100 / 10 ^ 0 % 10 : Nat) : Int) - 48)) = (N : Int) := by
    rw [Nat.pow_one, Nat.pow_zero, Nat.div_one]; omega
  rw [e, if_neg (by omega)]
  by_cases h : n < 0
  · rw [if_pos (hs.2 (by rw [hneg]; exact decide_eq_true h))]
    congr 1; omega
  · rw [if_neg (fun q => by have := hs.1 q; rw [hneg] at this; exact h (of_decide_eq_true this))]
    congr 1; omega
theorem textsLen {n : Int} : (textS n).length ≤ 100 := by
  unfold textS textZ
  split
  · rename_i hn
    have hb := mayM_iff.1 hn
    have key : ∀ N, N ≤ 1000000000000 → (textP N).length ≤ 20 := fun N hN => by
      have := len_le (m := N) hN (least := 3) (by omega)
      rw [textP, List.length_reverse, bk_len]; split <;> omega
    split
    · have := key (-n).toNat (by omega)
      simp; omega
    · have := key n.toNat (by omega)
      omega
  · simp
theorem ofTT (n : Int) (w : World) (hm : mayM n = true) : Calls Try.prog 21 [strOf (textS n)].toArray w (Ret fun v w' => v = .tuple #[.int .i64 n, .int .i64 0] ∧ Below w.heap.size w w') := by
  have := of21 (textS n) w (by have := textsLen (n := n); omega)
  rwa [of_text hm] at this
theorem ofNone (w : World) : Calls Try.prog 21 [strOf []].toArray w (Ret fun v w' => v = .tuple #[.int .i64 0, .int .i64 4] ∧ Below w.heap.size w w') := by
  have := of21 [] w (by decide)
  rwa [show ofS [] = (0, 4) by decide +kernel] at this
theorem of23' (l : List UInt8) (w : World) (hl : l.length ≤ 100000) : Calls Try.prog 23 [strOf l].toArray w (Ret fun v w' => v = .tuple #[.int .i64 (ofS l).1, .int .i64 (ofS l).2] ∧ Below w.heap.size w w') :=
  (of23 l w hl).to fun v w' ⟨h, hb⟩ => by
    rcases h with ⟨h1, h2⟩ | ⟨h1, h2⟩
    · rw [of_noform h1]; exact ⟨h2, hb⟩
    · rw [of_form h1]; exact ⟨h2, hb⟩
set_option maxHeartbeats 1000000 in
theorem textsC (n : Int) (s : List UInt8) (w : World) (hai : -9223372036854775808 ≤ n ∧ n ≤ 9223372036854775807) :
    Calls Try.prog 7 [.int .i64 n, strOf s].toArray w (Ret fun v w' => v = .bool true ∧ Below w.heap.size w w') := by
  have hB := Below.refl w.heap.size w
  obtain ⟨T, hT⟩ : ∃ T, textS n = T := ⟨_, rfl⟩
  obtain ⟨x, e, hO⟩ : ∃ x e, ofS s = (x, e) := ⟨_, _, rfl⟩
  have hy : mayM n = false → T = [] := fun h => by rw [← hT, textS, if_neg (by rw [h]; decide)]
  refine calls_W (fn := Try.f7) (rs := [.tmp 4]) (n := 65) Try.func7 rfl rfl Try.ntmps7 (by kernel_rfl) rfl ?_
  refine W_seq ?_
  refine W_region ?_
  refine WR_val rfl (rn_assign) ?_
  refine WR_nil ?_
  refine thenN ?_
  refine W_seq ?_
  refine W_seq ?_
  refine W_region ?_
  refine WR_val rfl (rn_move) ?_
  refine WR_val rfl (rn_len_string (by kernel_rfl) rfl rfl) ?_
  refine WR_val rfl (rn_gtr rfl rfl) ?_
  refine WR_nil ?_
  refine thenN ?_
  refine W_ifp rfl (fun hbig => ?_) (fun hbig => ?_)
  ·
    refine W_seq ?_
    refine W_region ?_
    refine WR_ent rfl (rn_call (by kernel_rfl) rfl) (known10 w) ?_
    rintro _ w15 ⟨rfl, hb15⟩
    replace hB := hB.acc hb15
    refine WR_val rfl (rn_assign) ?_
    refine WR_nil ?_
    refine thenN ?_
    refine W_ret ?_
    refine thenR ?_
    refine ret_ret [_] ⟨rfl, trivial⟩ ?_
    exact ⟨rfl, hB⟩
  ·
    have hs : s.length ≤ 100000 := by omega
    have hO1 : ∀ w, Calls Try.prog 21 [strOf s].toArray w (Ret fun v w' => v = .tuple #[.int .i64 x, .int .i64 e] ∧ Below w.heap.size w w') := fun w => by
      have := of21 s w hs
      rwa [hO] at this
    have hO2 : ∀ w, Calls Try.prog 23 [strOf s].toArray w (Ret fun v w' => v = .tuple #[.int .i64 x, .int .i64 e] ∧ Below w.heap.size w w') := fun w => by
      have := of23' s w hs
      rwa [hO] at this
    have hTx : ∀ w, Calls Try.prog 20 [.int .i64 n].toArray w (Ret fun v w' => v = strOf T ∧ Below w.heap.size w w') := fun w => hT ▸ text20 n w hai
    obtain ⟨X, E, hX, hXm⟩ : ∃ X E : Int, (∀ w, Calls Try.prog 21 [strOf T].toArray w (Ret fun v w' => v = .tuple #[.int .i64 X, .int .i64 E] ∧ Below w.heap.size w w')) ∧ ((mayM n = true ∧ X = n ∧ E = 0) ∨ (mayM n = false ∧ E = 4)) := by
      by_cases hm : mayM n = true
      · exact ⟨n, 0, fun w => hT ▸ ofTT n w hm, Or.inl ⟨hm, rfl, rfl⟩⟩
      · have hm' : mayM n = false := by simpa using hm
        exact ⟨0, 4, fun w => by rw [hy hm']; exact ofNone w, Or.inr ⟨hm', rfl⟩⟩
    refine W_skip ?_
    refine thenN ?_
    refine W_seq ?_
    refine W_region ?_
    refine WR_val rfl (rn_move) ?_
    refine WR_ent rfl (rn_call (by kernel_rfl) rfl) (hTx w) ?_
    rintro _ w17 ⟨rfl, hb17⟩
    replace hB := hB.acc hb17
    refine WR_val rfl (rn_assign) ?_
    refine WR_nil ?_
    refine thenN ?_
    refine W_seq ?_
    refine W_region ?_
    refine WR_val rfl (rn_move) ?_
    refine WR_ent rfl (rn_call (by kernel_rfl) rfl) (hX w17) ?_
    rintro _ w20 ⟨rfl, hb20⟩
    replace hB := hB.acc hb20
    refine WR_val rfl (rn_move) ?_
    refine WR_val rfl (rn_extract rfl rfl) ?_
    refine WR_val rfl (rn_extract rfl rfl) ?_
    refine WR_val rfl (rn_assign) ?_
    refine WR_val rfl (rn_assign) ?_
    refine WR_nil ?_
    refine thenN ?_
    refine W_cut (fun _ : Unit => [(1, strOf s)]) (fun _ w' => Below w.heap.size w w') ?_ ?_
    ·
      refine W_seq ?_
      refine W_region ?_
      refine WR_val rfl (rn_move) ?_
      refine WR_ent rfl (rn_call (by kernel_rfl) rfl) (may13 n w20) ?_
      rintro _ _ ⟨rfl, rfl⟩
      refine WR_nil ?_
      refine thenN ?_
      refine W_if rfl (fun hm => ?_) (fun hm => ?_)
      ·
        refine W_seq ?_
        have hXn : X = n ∧ E = 0 := by rcases hXm with h | h; exact h.2; rw [hm] at h; exact absurd h.1 (by decide)
        obtain ⟨hXa, hXb⟩ := hXn
        subst hXa hXb
        have hRx : ∀ w, Calls Try.prog 22 [.int .i64 X].toArray w (Ret fun v w' => v = strOf T ∧ Below w.heap.size w w') := fun w => hT ▸ text22 X w hm
        refine W_region ?_
        refine WR_val rfl (rn_move) ?_
        refine WR_val rfl (rn_move) ?_
        refine WR_ent rfl (rn_call (by kernel_rfl) rfl) (hRx w20) ?_
        rintro _ w27 ⟨rfl, hb27⟩
        replace hB := hB.acc hb27
        refine WR_val rfl (rn_neqS (a := T) (b := T) rfl rfl) ?_
        refine WR_val rfl (rn_move) ?_
        refine WR_fb 29 rfl ((by simp)) ?_
        refine WR_yes rfl ?_
        refine WR_val rfl (rn_move) ?_
        refine WR_yes rfl ?_
        refine WR_val rfl (rn_neq rfl rfl) ?_
        refine WR_val rfl (rn_pick_f rfl) ?_
        refine WR_val rfl (rn_move) ?_
        refine WR_fp 33 rfl ((by simp)) ?_
        refine WR_yes rfl ?_
        refine WR_val rfl (rn_move) ?_
        refine WR_yes rfl ?_
        refine WR_val rfl (rn_move) ?_
        refine WR_yes rfl ?_
        refine WR_val rfl (rn_neq rfl rfl) ?_
        refine WR_val rfl (rn_pick_f rfl) ?_
        refine WR_nil ?_
        refine thenN ?_
        refine W_fp rfl ((by simp)) ?_
        refine W_skip ?_
        refine loopN ⟨(), ⟨rfl, rfl⟩, hB⟩
      ·
        have hm' : mayM n = false := by simpa using hm
        have hE4 : E = 4 := by
          rcases hXm with h | h
          · rw [hm'] at h; exact absurd h.1 (by decide)
          · exact h.2
        have hTe := hy hm'
        subst hE4 hTe
        refine W_seq ?_
        refine W_region ?_
        refine WR_val rfl (rn_move) ?_
        refine WR_val rfl (rn_neqS (a := []) (b := []) rfl rfl) ?_
        refine WR_val rfl (rn_move) ?_
        refine WR_fb 40 rfl ((by simp)) ?_
        refine WR_yes rfl ?_
        refine WR_val rfl (rn_move) ?_
        refine WR_yes rfl ?_
        refine WR_val rfl (rn_neq rfl rfl) ?_
        refine WR_val rfl (rn_pick_f rfl) ?_
        refine WR_nil ?_
        refine thenN ?_
        refine W_fp rfl ((by simp)) ?_
        refine W_skip ?_
        refine loopN ⟨(), ⟨rfl, rfl⟩, hB⟩
    ·
      rintro - f wr hB
      refine W_seq ?_
      refine W_region ?_
      refine WR_val rfl (rn_move) ?_
      refine WR_ent rfl (rn_call (by kernel_rfl) rfl) (hO1 wr) ?_
      rintro _ w46 ⟨rfl, hb46⟩
      replace hB := hB.acc hb46
      refine WR_val rfl (rn_move) ?_
      refine WR_val rfl (rn_extract rfl rfl) ?_
      refine WR_val rfl (rn_extract rfl rfl) ?_
      refine WR_val rfl (rn_assign) ?_
      refine WR_val rfl (rn_assign) ?_
      refine WR_nil ?_
      refine thenN ?_
      refine W_seq ?_
      refine W_region ?_
      refine WR_val rfl (rn_move) ?_
      refine WR_ent rfl (rn_call (by kernel_rfl) rfl) (hO2 w46) ?_
      rintro _ w51 ⟨rfl, hb51⟩
      replace hB := hB.acc hb51
      refine WR_val rfl (rn_move) ?_
      refine WR_val rfl (rn_extract rfl rfl) ?_
      refine WR_val rfl (rn_extract rfl rfl) ?_
      refine WR_val rfl (rn_assign) ?_
      refine WR_val rfl (rn_assign) ?_
      refine WR_nil ?_
      refine thenN ?_
      refine W_seq ?_
      refine W_region ?_
      refine WR_val rfl (rn_move) ?_
      refine WR_val rfl (rn_move) ?_
      refine WR_val rfl (rn_eql rfl rfl) ?_
      refine WR_val rfl (rn_move) ?_
      refine WR_tp 57 rfl ((rfl)) ?_
      refine WR_yes rfl ?_
      refine WR_val rfl (rn_move) ?_
      refine WR_yes rfl ?_
      refine WR_val rfl (rn_move) ?_
      refine WR_yes rfl ?_
      refine WR_val rfl (rn_eql rfl rfl) ?_
      refine WR_val rfl (rn_pick_t rfl) ?_
      refine WR_val rfl (rn_move) ?_
      refine WR_tp 62 rfl ((rfl)) ?_
      refine WR_yes rfl ?_
      refine WR_ent rfl (rn_call (by kernel_rfl) rfl) (known10 w51) ?_
      rintro _ w63 ⟨rfl, hb63⟩
      replace hB := hB.acc hb63
      refine WR_val rfl (rn_pick_t rfl) ?_
      refine WR_val rfl (rn_assign) ?_
      refine WR_nil ?_
      refine thenN ?_
      refine W_ret ?_
      refine ret_ret [_] ⟨rfl, trivial⟩ ?_
      exact ⟨rfl, hB⟩
theorem textsS (n : Int) (s : ByteArray) (w : World) (hai : -9223372036854775808 ≤ n ∧ n ≤ 9223372036854775807) :
    Calls Try.prog 7 [.int .i64 n, .string s].toArray w (Ret fun v w' => v = .bool true ∧ Below w.heap.size w w') := by
  rw [strOf_eq s]
  exact textsC n s.data.toList w hai
end Go.Proofs.Ytknjiohhlemeiaa
