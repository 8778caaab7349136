/- The document's disk: one made; step, what is read, is there such a sector. -/
import Derived.Test.YtpndhildmfmcgaaDiskJ
namespace Go.Proofs.Ytpndhildmfmcgaa
open Go Go.RowKit Coup

theorem VsAt.new {w w' : World} {G : List Nat} {vs : List Value} {V : List (List Sec)} (h : VsAt w G vs V) (hb : Below w.heap.size w w') : VsAt w' G vs V := h.kpd (M := []) (Kp.of_below hb) (by simp)
theorem owns_low {w : World} {lo lo' e sz m : Nat} {v : Value} {xs : List Value} (h : ownsAt w lo e sz v m xs) (hl : lo' ≤ lo) : ownsAt w lo' e sz v m xs :=
  ⟨h.1, h.2.imp id fun ⟨g, o, c, cu, e, hb, r⟩ => ⟨g, o, c, cu, e, Nat.le_trans hl hb, r⟩⟩
set_option maxRecDepth 8000 in
theorem rnew29 (n : Nat) (w : World) (h1 : 1 ≤ n) (hn : n ≤ 8192) : Calls Try.prog 29 [.int .i64 (n : Int)].toArray w (Ret fun v w' => ∃ g C, v = .pointer (some ⟨g, 0, none⟩) ∧ RfX w' g C (newD n) ∧ (∀ b ∈ C, w.heap.size ≤ b) ∧ Below w.heap.size w w') := by
  have hB := Below.refl w.heap.size w
  have hml : maxLen = 9223372036854775807 := by decide
  obtain ⟨Z, hzz, hzb, hzl⟩ := zeroSQ
  refine calls_W (fn := Try.f29) (rs := [.tmp 2]) (n := 24) Try.func29 rfl rfl Try.ntmps29 (by kernel_rfl) rfl ?_
  refine W_seq ?_
  refine W_region ?_
  refine WR_val rfl (rn_assign) ?_
  refine WR_nil ?_
  refine thenN ?_
  refine W_seq ?_
  refine W_region ?_
  refine WR_val rfl (rn_built1 (.int .i64 (-1)) [.slice none 0 0, .int .i64 (-1), .bool false] rfl (by kernel_rfl)) ?_
  refine WR_mk rfl (mk_box ([.slice none 0 0, .int .i64 (-1), .bool false]) rfl (fun g6 w6 hg6 hr6 hb6 => ?_))
  have ge_hB_g6 := Nat.le_trans hB.size hg6
  replace hB := hB.acc hb6
  refine WR_val rfl (rn_assign) ?_
  refine WR_nil ?_
  refine thenN ?_
  refine W_seq ?_
  refine W_seq ?_
  refine W_region ?_
  refine WR_val rfl (rn_assign) ?_
  refine WR_nil ?_
  refine thenN ?_
  refine W_block ?_
  have hobt : ∃ lo, w6.heap.size = lo := ⟨_, rfl⟩
  obtain ⟨lo, hlo⟩ := hobt
  have hl6 := hr6.lt
  have hlB := hB.size
  refine W_loop (α := Nat) 0 (fun i => [(4, .int .i64 (i : Nat)), (0, .int .i64 (n : Int)), (3, .pointer (some ⟨g6, 0, none⟩))])
    (fun i w' => i ≤ n ∧ (∃ u vs G, row w' g6 [u, .int .i64 (-1), .bool false] 58 ∧ ownsAt w' lo 52 1 u i vs ∧ VsAt w' G vs (List.replicate i [zeroS]) ∧ (∀ b ∈ G, lo ≤ b ∧ b < w'.heap.size ∧ u.ownBlock ≠ some b)) ∧ lo ≤ w'.heap.size ∧ Below w.heap.size w w') (fun i => n - i)
    ⟨rfl, rfl, rfl, rfl⟩ ⟨Nat.zero_le _, ⟨_, [], [], hr6, ownsAt_nil _ _ _ _, ⟨rfl, fun i v hv => by simp at hv⟩, (fun b hb => nomatch hb)⟩, by omega, hB⟩ ?_
  clear hr6 hB
  rintro i f wr ⟨hi, ⟨u, vs, G, hr6, hu, hvs, hG⟩, hlow, hB⟩
  refine W_seq ?_
  refine W_seq ?_
  refine W_region ?_
  refine WR_val rfl (rn_move) ?_
  refine WR_val rfl (rn_move) ?_
  refine WR_val rfl (rn_lss rfl rfl) ?_
  refine WR_nil ?_
  refine thenN ?_
  refine W_ifp rfl (fun hlt => ?_) (fun hlt => ?_)
  ·
    refine W_skip ?_
    refine thenN ?_
    refine W_seq ?_
    refine W_block ?_
    refine W_region ?_
    refine WR_val rfl (rn_move) ?_
    refine WR_val rfl (rn_move) ?_
    refine WR_val rfl (rn_nilCheckP rfl) ?_
    refine WR_val rfl (rn_fieldAddr (off := 0) (by kernel_rfl) rfl) ?_
    refine WR_val rfl (rn_load rfl (Ld.row1 hr6 (by kernel_rfl) rfl)) ?_
    refine WR_val rfl (rn_zeroed (bv Z) (by rw [← hzb]; kernel_rfl)) ?_
    have hu0 : ∀ b, u.ownBlock = some b → b < wr.heap.size := fun b e => (hu.lt b e).2
    refine WR_mk rfl (mk_one (e := 34) (.agg (bv Z).toArray) (bv Z) (List.replicate 128 (Value.int .u8 0)) 128 (by kernel_rfl) (by kernel_rfl) rfl rfl (by first | rfl | (simp; done) | (simp [bv_length, *]; done)) ⟨by decide, by decide⟩ (fun g18 w18 hg18 hr18 hb18 => ?_))
    have ge_hB_g18 := Nat.le_trans hB.size hg18
    have lt_g6_g18 : g6 < g18 := Nat.lt_of_lt_of_le hr6.lt hg18
    replace hr6 := hr6.new hb18
    replace hu := hu.new hb18
    replace hvs := hvs.new hb18
    replace hB := hB.acc hb18
    refine WR_mk rfl (mk_one (e := 52) (.slice (some ⟨g18, 0, none⟩) 1 1) ([.slice (some ⟨g18, 0, none⟩) 1 1]) ([Value.slice none 0 0]) 1 (by kernel_rfl) (by kernel_rfl) rfl rfl rfl ⟨by decide, by decide⟩ (fun g19 w19 hg19 hr19 hb19 => ?_))
    have ge_hB_g19 := Nat.le_trans hB.size hg19
    have lt_g6_g19 : g6 < g19 := Nat.lt_of_lt_of_le hr6.lt hg19
    have lt_g18_g19 : g18 < g19 := Nat.lt_of_lt_of_le hr18.lt hg19
    replace hr6 := hr6.new hb19
    replace hu := hu.new hb19
    replace hvs := hvs.new hb19
    replace hr18 := hr18.new hb19
    replace hB := hB.acc hb19
    have hs19 := hr19.slA (m := 1) (sz := 1) rfl (by omega)
    have hs18 := hr18.slA (m := 1) (sz := 128) hzl (by omega)
    have l18 := hr18.lt
    have l6 := hr6.lt
    have l0 : lo ≤ g18 := by omega
    have hgB : g6 < lo := by omega
    have sz_hB_20 := hB.size
    refine WR_mk rfl (mk_append (e := 52) (sz := 1) (bytes := 24) (z := Value.slice none 0 0) (by kernel_rfl) rfl (by kernel_rfl) rfl (by decide) rfl hu rfl hs19 (by simp [Value.oneCell']) (by unfold maxLen; omega) (by omega) (fun hm0 => by omega) (fun v20 w20 hv20 hgr20 hfr20 => ?_))
    replace hr6 := hr6.own hu hgr20 (by omega)
    replace hB := hB.own hu hgr20 (by omega)
    have kG : Kp u.ownBlock.toList w19 w20 := Kp.of_grown hgr20
    have hfr : ∀ b, v20.ownBlock = some b → u.ownBlock = some b ∨ w19.heap.size ≤ b := hfr20
    have hsz20 := kG.size
    have hform := hv20.form
    obtain ⟨p20, c20, rfl⟩ := hform
    replace hvs := hvs.kpd kG (fun b hb e => (hG b hb).2.2 (Option.mem_toList.1 e))
    replace hs18 := hs18.kpd kG (fun b o e hm => by have h3 := hu0 b (Option.mem_toList.1 hm); cases e; omega)
    refine WR_val rfl (rn_nilCheckP rfl) ?_
    refine WR_val rfl (rn_fieldAddr (off := 0) (by kernel_rfl) rfl) ?_
    refine WR_sk rfl (sk_store1 rfl rfl rfl rfl hr6 (by kernel_rfl) (by first | (simp only [List.length_replicate]; omega) | (simp only [iv_length]; omega) | (simp only [bv_length, List.length_set]; omega) | simp) (fun w901 hr6 ho901 => ?_))
    replace hv20 := hv20.only ho901 (by omega)
    replace hB := ho901.below hB ge_hB_g6
    refine WR_nil ?_
    refine blockN ?_
    refine thenN ?_
    refine W_region ?_
    refine WR_val rfl (rn_move) ?_
    refine WR_val rfl (rn_add rfl rfl (Coup.w64 (by omega))) ?_
    refine WR_val rfl (rn_assign) ?_
    refine WR_nil ?_
    have hne18 : ∀ b ∈ g18 :: G, b ∉ [g6] := fun b hb hm => by
      have h3 : b = g6 := by simpa using hm
      rcases List.mem_cons.1 hb with h2 | h2
      · omega
      · have := hG b h2; omega
    have hvs2 := (hvs.weak (G' := g18 :: G) (fun b hb => List.mem_cons_of_mem _ hb)).push (v := [Z]) (c := 1) (by simpa using hs18) (fun b o e => by cases e; simp)
    have hvs3 := hvs2.kpd (Kp.of_only ho901) hne18
    have hszO := (Kp.of_only ho901).size
    have e1 : List.replicate (i + 1) [zeroS] = List.replicate i [zeroS] ++ [[Z]] := by rw [List.replicate_succ', hzz]
    refine loopN ⟨i + 1, by omega, ⟨by go_num, rfl, rfl, rfl⟩, by omega, ⟨_, _, g18 :: G, hr6, hv20, by rw [e1]; exact hvs3, fun b hb => ?_⟩, by omega, hB⟩
    have hcl : ∀ x, u.ownBlock ≠ some x ∨ x = g18 → True := fun _ _ => trivial
    rcases List.mem_cons.1 hb with h2 | h2
    · subst h2
      refine ⟨l0, by omega, fun e => ?_⟩
      rcases hfr _ e with h3 | h3
      · have := hu0 _ h3; omega
      · omega
    · have h4 := hG b h2
      refine ⟨h4.1, by omega, fun e => ?_⟩
      rcases hfr _ e with h3 | h3
      · exact h4.2.2 h3
      · omega
  ·
    obtain rfl : i = n := by omega
    have hobt := hu.form' (by omega)
    obtain ⟨pv, ov, cv, rfl, hlp, hpl, hcc⟩ := hobt
    refine W_exit ?_
    refine thenX ?_
    refine loopX ?_
    refine blockX ?_
    refine thenN ?_
    refine W_seq ?_
    refine W_region ?_
    refine WR_val rfl (rn_move) ?_
    refine WR_val rfl (rn_assign) ?_
    refine WR_nil ?_
    refine thenN ?_
    refine W_ret ?_
    refine ret_ret [_] ⟨rfl, trivial⟩ ?_
    have hlen := newD_len i
    refine ⟨g6, [g6, pv] ++ G, rfl, ⟨pv, G, ov, cv, vs, rfl, by rw [hlen]; exact hr6, by rw [hlen]; exact owns_low hu (Nat.zero_le _), hvs, fun b hb => (hG b hb).2.1, ⟨by omega, fun b hb => ⟨by have := (hG b hb).1; omega, fun e => (hG b hb).2.2 (by rw [e]; rfl)⟩⟩, ⟨by show (-1 : Int) ≤ -1; omega, by show (-1 : Int) ≤ _; omega⟩, newD_ok hn, by omega⟩, fun b hb => ?_, hB⟩
    rcases List.mem_append.1 hb with h2 | h2
    · have : b = g6 ∨ b = pv := by simpa using h2
      omega
    · have := (hG b h2).1; omega
end Go.Proofs.Ytpndhildmfmcgaa
