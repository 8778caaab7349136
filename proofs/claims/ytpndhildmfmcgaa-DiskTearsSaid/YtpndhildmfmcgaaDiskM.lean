/- What is known of disks. -/
import Derived.Test.YtpndhildmfmcgaaDiskL
namespace Go.Proofs.Ytpndhildmfmcgaa
open Go Go.RowKit Coup

/-- A slice of picks in a block of its own. -/
def SZ (p : Option Addr) (n : Nat) (picks : List Int) : World → List Nat → Prop := fun w C => (∀ b o, p = some ⟨b, o, none⟩ → b ∈ C) ∧ (∀ b ∈ C, b < w.heap.size) ∧ SlAt w p n 1 (iv picks)
instance (p : Option Addr) (n : Nat) (picks : List Int) : Thing (SZ p n picks) :=
  ⟨fun h k hM => ⟨h.1, fun b hb => Nat.lt_of_lt_of_le (h.2.1 b hb) k.size, h.2.2.kpd k fun b o e => hM b (h.1 b o e)⟩, fun h => h.2.1⟩
theorem dCrashP {g lo : Nat} {D : Dk} {w : World} {p : Option Addr} {n cp : Nat} {picks : List Int} (h : Duo (DZ g D) (SZ p n picks) lo w) :
    Calls Try.prog 20 [.pointer (some ⟨g, 0, none⟩), .slice p n cp].toArray w (Ret fun v w' => v = .int .i64 0 ∧ Duo (DZ g (crashD D picks)) (SZ p n picks) lo w' ∧ Below lo w w') := by
  have hl := dzLo h
  have h' := h
  obtain ⟨B, C, h1, h2, h3, h4⟩ := h'
  refine (crash h1 p n cp picks h2.2.2 fun _ b o e hm => (h3 b hm).2 (h2.1 b o e)).to fun v w' ⟨e, h5, h6⟩ => ⟨e, ⟨B, C, h5, ⟨h2.1, fun b hb => Nat.lt_of_lt_of_le (h2.2.1 b hb) h6.size, h2.2.2.kpd h6 fun b o e hm => (h3 b hm).2 (h2.1 b o e)⟩, h3, h4⟩, (Mv.of_kp h6).bel (fun b hb => (h3 b hb).1) hl⟩
theorem Duo.fst {X Y : World → List Nat → Prop} {lo : Nat} {w : World} (h : Duo X Y lo w) : Duo X None lo w := by
  obtain ⟨B, C, h1, h2, h3, h4⟩ := h
  exact ⟨B, [], h1, rfl, fun b hb => ⟨(h3 b hb).1, by simp⟩, fun b hb => nomatch hb⟩
theorem short_of {D : Dk} {k k' : Nat} (h : shortD D k) (hk : k ≤ k') : shortD D k' := fun v hv => Nat.le_trans (h v hv) hk
theorem short_one {v : List Sec} {l : Int} {d : Bool} {k : Nat} (h : v.length ≤ k) : shortD ⟨[v], l, d⟩ k := fun u hu => by rw [List.mem_singleton.1 hu]; exact h
set_option maxRecDepth 8000 in
set_option maxHeartbeats 2000000 in
theorem known10 (w : World) : Calls Try.prog 10 [].toArray w (Ret fun v w' => v = .bool true ∧ Below w.heap.size w w') := by
  have hB := Below.refl w.heap.size w
  have hml : maxLen = 9223372036854775807 := by decide
  have hFx := full28 120
  have hFy := full28 121
  have hFz := full28 122
  have hlx := full_len 120
  have hly := full_len 121
  have hlz := full_len 122
  generalize fullS 120 = X at hFx hlx
  generalize fullS 121 = Y at hFy hly
  generalize fullS 122 = Z at hFz hlz
  have hT := fun w' => torn24 Z Y w' hlz hly
  have hTl : (tornS Z Y).length = 128 := by rw [tornS, List.length_append, List.length_take, List.length_drop]; omega
  have hpl : ∀ i : Nat, i < 2 → ∃ pk S, ([1, 4] : List Int)[i]? = some pk ∧ S.length = 128 ∧ leftS [X, Y, Z] pk = S ∧ [Y, tornS Z Y][i]? = some S := by
    intro i hi
    match i, hi with
    | 0, _ => exact ⟨1, Y, rfl, hly, by simp [leftS, leftAt], rfl⟩
    | 1, _ => exact ⟨4, tornS Z Y, rfl, hTl, by simp [leftS, leftAt], rfl⟩
  generalize tornS Z Y = T at hT hTl hpl
  have hyl : (bv Y).length = 128 := by rw [bv_length]; exact hly
  have htl : (bv T).length = 128 := by rw [bv_length]; exact hTl
  have hW1 : ∀ g lo w', Duo (DZ g (newD 1)) None lo w' → Calls Try.prog 17 [.pointer (some ⟨g, 0, none⟩), .int .i64 0, .agg (bv X).toArray].toArray w' (Ret fun v w2 => v = .int .i64 0 ∧ Duo (DZ g ⟨[[zeroS, X]], -1, false⟩) None lo w2 ∧ Below lo w' w2) := fun g lo w' h => dWrite h 0 X hlx (short_one (by simp))
  have hF1 : ∀ g lo w', Duo (DZ g ⟨[[zeroS, X]], -1, false⟩) None lo w' → Calls Try.prog 16 [.pointer (some ⟨g, 0, none⟩)].toArray w' (Ret fun v w2 => v = .int .i64 0 ∧ Duo (DZ g ⟨[[X]], -1, false⟩) None lo w2 ∧ Below lo w' w2) := fun g lo w' h => dFlush h
  have hW2 : ∀ g lo w', Duo (DZ g ⟨[[X]], -1, false⟩) None lo w' → Calls Try.prog 17 [.pointer (some ⟨g, 0, none⟩), .int .i64 0, .agg (bv Y).toArray].toArray w' (Ret fun v w2 => v = .int .i64 0 ∧ Duo (DZ g ⟨[[X, Y]], -1, false⟩) None lo w2 ∧ Below lo w' w2) := fun g lo w' h => dWrite h 0 Y hly (short_one (by simp))
  have hW3 : ∀ g lo w', Duo (DZ g ⟨[[X, Y]], -1, false⟩) None lo w' → Calls Try.prog 17 [.pointer (some ⟨g, 0, none⟩), .int .i64 0, .agg (bv Z).toArray].toArray w' (Ret fun v w2 => v = .int .i64 0 ∧ Duo (DZ g ⟨[[X, Y, Z]], -1, false⟩) None lo w2 ∧ Below lo w' w2) := fun g lo w' h => dWrite h 0 Z hlz (short_one (by simp))
  have hC : ∀ g lo w' p n cp pk, Duo (DZ g ⟨[[X, Y, Z]], -1, false⟩) (SZ p n [pk]) lo w' → Calls Try.prog 20 [.pointer (some ⟨g, 0, none⟩), .slice p n cp].toArray w' (Ret fun v w2 => v = .int .i64 0 ∧ Duo (DZ g ⟨[[leftS [X, Y, Z] pk]], -1, false⟩) (SZ p n [pk]) lo w2 ∧ Below lo w' w2) := fun g lo w' p n cp pk h => dCrashP h
  have hR : ∀ g lo w' S, Duo (DZ g ⟨[[S]], -1, false⟩) None lo w' → Calls Try.prog 23 [.pointer (some ⟨g, 0, none⟩), .int .i64 0].toArray w' (Ret fun v w2 => v = .tuple #[.agg (bv S).toArray, .int .i64 0] ∧ Below w'.heap.size w' w2) := fun g lo w' S h => dRead h 0
  obtain ⟨Zr, hzz, hzb, hzl⟩ := zeroSQ
  refine calls_W (fn := Try.f10) (rs := [.tmp 0]) (n := 72) Try.func10 rfl rfl Try.ntmps10 (by kernel_rfl) rfl ?_
  refine W_seq ?_
  refine W_region ?_
  refine WR_val rfl (rn_assign) ?_
  refine WR_nil ?_
  refine thenN ?_
  refine W_seq ?_
  refine W_region ?_
  refine WR_mk rfl (mk_two (e := 3) (.int .i64 1) (.int .i64 4) ([.int .i64 1]) ([.int .i64 4]) ([Value.int .i64 0]) 1 (by kernel_rfl) (by kernel_rfl) rfl rfl rfl rfl (by first | rfl | (simp; done) | (simp [bv_length, *]; done)) (by first | rfl | (simp; done) | (simp [bv_length, *]; done)) ⟨by decide, by decide⟩ (fun g8 w8 hg8 hr8 hb8 => ?_))
  have ge_hB_g8 := Nat.le_trans hB.size hg8
  replace hB := hB.acc hb8
  refine WR_val rfl (rn_assign) ?_
  refine WR_nil ?_
  refine thenN ?_
  refine W_seq ?_
  refine W_region ?_
  refine WR_ent rfl (rn_call (by kernel_rfl) rfl) (hFy w8) ?_
  rintro _ w9 ⟨rfl, hb9⟩
  replace hr8 := hr8.new hb9
  replace hB := hB.acc hb9
  refine WR_ent rfl (rn_call (by kernel_rfl) rfl) (hFz w9) ?_
  rintro _ w10 ⟨rfl, hb10⟩
  replace hr8 := hr8.new hb10
  replace hB := hB.acc hb10
  refine WR_ent rfl (rn_call (by kernel_rfl) rfl) (hFy w10) ?_
  rintro _ w11 ⟨rfl, hb11⟩
  replace hr8 := hr8.new hb11
  replace hB := hB.acc hb11
  refine WR_ent rfl (rn_call (by kernel_rfl) rfl) (hT w11) ?_
  rintro _ w12 ⟨rfl, hb12⟩
  replace hr8 := hr8.new hb12
  replace hB := hB.acc hb12
  refine WR_mk rfl (mk_two (e := 34) (.agg (bv Y).toArray) (.agg (bv T).toArray) (bv Y) (bv T) (List.replicate 128 (Value.int .u8 0)) 128 (by kernel_rfl) (by kernel_rfl) rfl rfl rfl rfl (by first | rfl | (simp; done) | (simp [bv_length, *]; done)) (by first | rfl | (simp; done) | (simp [bv_length, *]; done)) ⟨by decide, by decide⟩ (fun g13 w13 hg13 hr13 hb13 => ?_))
  have ge_hB_g13 := Nat.le_trans hB.size hg13
  have lt_g8_g13 : g8 < g13 := Nat.lt_of_lt_of_le hr8.lt hg13
  replace hr8 := hr8.new hb13
  replace hB := hB.acc hb13
  refine WR_val rfl (rn_assign) ?_
  refine WR_nil ?_
  refine thenN ?_
  refine W_seq ?_
  refine W_seq ?_
  refine W_region ?_
  refine WR_val rfl (rn_assign) ?_
  refine WR_nil ?_
  refine thenN ?_
  refine W_block ?_
  have hr13' : row w13 g13 (bv [Y, T].flatten) 34 := by rw [show [Y, T].flatten = Y ++ T by simp, bv_append]; exact hr13
  refine W_loop (α := Nat) 0 (fun i => [(3, .int .i64 (i : Nat)), (1, .slice (some ⟨g8, 0, none⟩) 2 2), (2, .slice (some ⟨g13, 0, none⟩) 2 2)])
    (fun i w' => i ≤ 2 ∧ row w' g8 [.int .i64 1, .int .i64 4] 3 ∧ row w' g13 (bv [Y, T].flatten) 34 ∧ Below w.heap.size w w') (fun i => 2 - i)
    ⟨rfl, rfl, rfl, rfl⟩ ⟨Nat.zero_le _, hr8, hr13', hB⟩ ?_
  clear hr8 hr13 hr13' hB
  have hYT : secsOk [Y, T] := fun s hs => by
    simp only [List.mem_cons, List.not_mem_nil, or_false] at hs
    rcases hs with rfl | rfl <;> assumption
  have hYTl := flat_len hYT
  rintro i f wr ⟨hi, hr8, hr13, hB⟩
  refine W_seq ?_
  refine W_seq ?_
  refine W_region ?_
  refine WR_val rfl (rn_move) ?_
  refine WR_val rfl (rn_lss rfl rfl) ?_
  refine WR_nil ?_
  refine thenN ?_
  refine W_ifp rfl (fun hlt => ?_) (fun hlt => ?_)
  ·
    refine W_skip ?_
    refine thenN ?_
    refine W_seq ?_
    refine W_block ?_
    refine W_seq ?_
    have hobt := hpl i (by omega)
    obtain ⟨pk, S, hpk, hSl, hleft, hS⟩ := hobt
    have hC2 := fun g lo w' p n cp => hC g lo w' p n cp pk
    rw [hleft] at hC2
    have hobt : ∃ lo, wr.heap.size = lo := ⟨_, rfl⟩
    obtain ⟨lo, hlo⟩ := hobt
    have l8 := hr8.lt
    have l13 := hr13.lt
    have lB := hB.size
    refine W_region ?_
    refine WR_ent rfl (rn_call (by kernel_rfl) rfl) (newC 1 (by omega) (by omega)) ?_
    rintro _ w19 ⟨g, B, rfl, hX, hBlo, hb19⟩
    replace hr8 := hr8.new hb19
    replace hr13 := hr13.new hb19
    replace hB := hB.acc hb19
    have hD0 : Duo (DZ g (newD 1)) None lo w19 := Duo.one hX (by rw [← hlo]; exact hBlo)
    have hsz := hX.lt g hX.self
    have hl0 := hBlo g hX.self
    refine WR_val rfl (rn_move) ?_
    refine WR_val rfl (rn_extract rfl rfl) ?_
    refine WR_val rfl (rn_extract rfl rfl) ?_
    refine WR_val rfl (rn_assign) ?_
    refine WR_val rfl (rn_assign) ?_
    refine WR_nil ?_
    refine thenN ?_
    refine W_seq ?_
    refine W_seq ?_
    refine W_region ?_
    refine WR_val rfl (rn_move) ?_
    refine WR_val rfl (rn_neq rfl rfl) ?_
    refine WR_val rfl (rn_move) ?_
    refine WR_fp 24 rfl ((by omega)) ?_
    refine WR_yes rfl ?_
    refine WR_val rfl (rn_move) ?_
    refine WR_yes rfl ?_
    refine WR_ent rfl (rn_call (by kernel_rfl) rfl) (hFx w19) ?_
    rintro _ w26 ⟨rfl, hb26⟩
    replace hr8 := hr8.new hb26
    replace hr13 := hr13.new hb26
    replace hD0 := hD0.new hb26
    replace hB := hB.acc hb26
    refine WR_yes rfl ?_
    refine WR_ent rfl (rn_call (by kernel_rfl) rfl) (hW1 g lo w26 hD0) ?_
    rintro _ w27 ⟨rfl, hD1, hb27⟩
    replace hr8 := hr8.kpd (Kp.of_lo hb27) (by first | exact notLo (by omega) | (intro b o e; cases e; exact notLo (by omega)) | (intro b hb; exact notLo (by omega)))
    replace hr13 := hr13.kpd (Kp.of_lo hb27) (by first | exact notLo (by omega) | (intro b o e; cases e; exact notLo (by omega)) | (intro b hb; exact notLo (by omega)))
    replace hB := belLo hB hb27 (by omega)
    refine WR_yes rfl ?_
    refine WR_val rfl (rn_neq rfl rfl) ?_
    refine WR_val rfl (rn_pick_f rfl) ?_
    refine WR_val rfl (rn_move) ?_
    refine WR_fp 30 rfl ((by omega)) ?_
    refine WR_yes rfl ?_
    refine WR_val rfl (rn_move) ?_
    refine WR_yes rfl ?_
    refine WR_ent rfl (rn_call (by kernel_rfl) rfl) (hF1 g lo w27 hD1) ?_
    rintro _ w32 ⟨rfl, hD2, hb32⟩
    replace hr8 := hr8.kpd (Kp.of_lo hb32) (by first | exact notLo (by omega) | (intro b o e; cases e; exact notLo (by omega)) | (intro b hb; exact notLo (by omega)))
    replace hr13 := hr13.kpd (Kp.of_lo hb32) (by first | exact notLo (by omega) | (intro b o e; cases e; exact notLo (by omega)) | (intro b hb; exact notLo (by omega)))
    replace hB := belLo hB hb32 (by omega)
    refine WR_yes rfl ?_
    refine WR_val rfl (rn_neq rfl rfl) ?_
    refine WR_val rfl (rn_pick_f rfl) ?_
    refine WR_val rfl (rn_move) ?_
    refine WR_fp 35 rfl ((by omega)) ?_
    refine WR_yes rfl ?_
    refine WR_val rfl (rn_move) ?_
    refine WR_yes rfl ?_
    refine WR_ent rfl (rn_call (by kernel_rfl) rfl) (hFy w32) ?_
    rintro _ w37 ⟨rfl, hb37⟩
    replace hr8 := hr8.new hb37
    replace hr13 := hr13.new hb37
    replace hD2 := hD2.new hb37
    replace hB := hB.acc hb37
    refine WR_yes rfl ?_
    refine WR_ent rfl (rn_call (by kernel_rfl) rfl) (hW2 g lo w37 hD2) ?_
    rintro _ w38 ⟨rfl, hD3, hb38⟩
    replace hr8 := hr8.kpd (Kp.of_lo hb38) (by first | exact notLo (by omega) | (intro b o e; cases e; exact notLo (by omega)) | (intro b hb; exact notLo (by omega)))
    replace hr13 := hr13.kpd (Kp.of_lo hb38) (by first | exact notLo (by omega) | (intro b o e; cases e; exact notLo (by omega)) | (intro b hb; exact notLo (by omega)))
    replace hB := belLo hB hb38 (by omega)
    refine WR_yes rfl ?_
    refine WR_val rfl (rn_neq rfl rfl) ?_
    refine WR_val rfl (rn_pick_f rfl) ?_
    refine WR_val rfl (rn_move) ?_
    refine WR_fp 41 rfl ((by omega)) ?_
    refine WR_yes rfl ?_
    refine WR_val rfl (rn_move) ?_
    refine WR_yes rfl ?_
    refine WR_ent rfl (rn_call (by kernel_rfl) rfl) (hFz w38) ?_
    rintro _ w43 ⟨rfl, hb43⟩
    replace hr8 := hr8.new hb43
    replace hr13 := hr13.new hb43
    replace hD3 := hD3.new hb43
    replace hB := hB.acc hb43
    refine WR_yes rfl ?_
    refine WR_ent rfl (rn_call (by kernel_rfl) rfl) (hW3 g lo w43 hD3) ?_
    rintro _ w44 ⟨rfl, hD4, hb44⟩
    replace hr8 := hr8.kpd (Kp.of_lo hb44) (by first | exact notLo (by omega) | (intro b o e; cases e; exact notLo (by omega)) | (intro b hb; exact notLo (by omega)))
    replace hr13 := hr13.kpd (Kp.of_lo hb44) (by first | exact notLo (by omega) | (intro b o e; cases e; exact notLo (by omega)) | (intro b hb; exact notLo (by omega)))
    replace hB := belLo hB hb44 (by omega)
    refine WR_yes rfl ?_
    refine WR_val rfl (rn_neq rfl rfl) ?_
    refine WR_val rfl (rn_pick_f rfl) ?_
    refine WR_val rfl (rn_move) ?_
    refine WR_fp 47 rfl ((by omega)) ?_
    refine WR_yes rfl ?_
    refine WR_val rfl (rn_move) ?_
    refine WR_yes rfl ?_
    refine WR_val rfl (rn_move) ?_
    refine WR_yes rfl ?_
    refine WR_val rfl (rn_move) ?_
    refine WR_yes rfl ?_
    refine WR_val rfl (rn_indexSl1 (e := 3) (by kernel_rfl) rfl rfl (i) (by omega) (by omega)) ?_
    refine WR_yes rfl ?_
    refine WR_val rfl (rn_load rfl (Ld.row1 hr8 (by kernel_rfl) (show [Value.int .i64 1, Value.int .i64 4][0 + i]? = some (.int .i64 pk) by rw [Nat.zero_add]; exact iv_some (l := [1, 4]) hpk))) ?_
    refine WR_yes rfl ?_
    have hDb := hD4
    refine WR_mk rfl (mk_one (e := 3) (.int .i64 pk) ([.int .i64 pk]) ([Value.int .i64 0]) 1 (by kernel_rfl) (by kernel_rfl) rfl rfl rfl ⟨by decide, by decide⟩ (fun g53 w53 hg53 hr53 hb53 => ?_))
    have ge_hB_g53 := Nat.le_trans hB.size hg53
    have lt_g8_g53 : g8 < g53 := Nat.lt_of_lt_of_le hr8.lt hg53
    have lt_g13_g53 : g13 < g53 := Nat.lt_of_lt_of_le hr13.lt hg53
    replace hr8 := hr8.new hb53
    replace hr13 := hr13.new hb53
    replace hD4 := hD4.new hb53
    replace hB := hB.acc hb53
    have hDp := Duo.add (Y := SZ (some ⟨g53, 0, none⟩) 1 [pk]) (C := [g53]) hDb (dzLo hDb) hb53 ⟨fun b o e => by cases e; simp, fun b hb => by rw [List.mem_singleton.1 hb]; exact hr53.lt, hr53.slA (m := 1) (sz := 1) rfl (by omega)⟩ (fun b hb => by rw [List.mem_singleton.1 hb]; exact hg53)
    refine WR_yes rfl ?_
    refine WR_ent rfl (rn_call (by kernel_rfl) rfl) (hC2 g lo w53 _ _ _ hDp) ?_
    rintro _ w54 ⟨rfl, hD5, hb54⟩
    replace hr8 := hr8.kpd (Kp.of_lo hb54) (by first | exact notLo (by omega) | (intro b o e; cases e; exact notLo (by omega)) | (intro b hb; exact notLo (by omega)))
    replace hr13 := hr13.kpd (Kp.of_lo hb54) (by first | exact notLo (by omega) | (intro b o e; cases e; exact notLo (by omega)) | (intro b hb; exact notLo (by omega)))
    replace hB := belLo hB hb54 (by omega)
    have hD6 := Duo.fst hD5
    refine WR_yes rfl ?_
    refine WR_val rfl (rn_neq rfl rfl) ?_
    refine WR_val rfl (rn_pick_f rfl) ?_
    refine WR_nil ?_
    refine thenN ?_
    refine W_fp rfl ((by omega)) ?_
    refine W_skip ?_
    refine thenN ?_
    refine W_seq ?_
    refine W_region ?_
    refine WR_val rfl (rn_move) ?_
    refine WR_ent rfl (rn_call (by kernel_rfl) rfl) (hR g lo w54 S hD6) ?_
    rintro _ w59 ⟨rfl, hb59⟩
    replace hr8 := hr8.new hb59
    replace hr13 := hr13.new hb59
    replace hB := hB.acc hb59
    refine WR_val rfl (rn_move) ?_
    refine WR_val rfl (rn_extract rfl rfl) ?_
    refine WR_val rfl (rn_extract rfl rfl) ?_
    refine WR_mk rfl (mk_alloc (List.replicate 128 (Value.int .u8 0)) (by kernel_rfl) (fun g6 w6 hg6 hr6 hb6 => ?_))
    have ge_hB_g6 := Nat.le_trans hB.size hg6
    have lt_g8_g6 : g8 < g6 := Nat.lt_of_lt_of_le hr8.lt hg6
    have lt_g13_g6 : g13 < g6 := Nat.lt_of_lt_of_le hr13.lt hg6
    replace hr8 := hr8.new hb6
    replace hr13 := hr13.new hb6
    replace hB := hB.acc hb6
    rw [hzb] at hr6
    refine WR_sk rfl (sk_storeA 128 (bv S) rfl rfl hr6 (by kernel_rfl) (by first | assumption | (simp; done) | (simp [bv_length, *]; done)) (by first | assumption | (simp; done) | (simp [bv_length, *]; done) | rfl) (by first | exact bv_one _ | assumption | (simp [Value.oneCell']; done)) (fun w901 hr6 ho901 => ?_))
    replace hr8 := hr8.only ho901 (Nat.ne_of_lt lt_g8_g6)
    replace hr13 := hr13.only ho901 (Nat.ne_of_lt lt_g13_g6)
    replace hB := ho901.below hB ge_hB_g6
    refine WR_val rfl (rn_assign) ?_
    refine WR_nil ?_
    refine thenN ?_
    refine W_seq ?_
    refine W_draw' [] (by kernel_rfl) ?_
    intro w902 hb902 hS902
    replace hr8 := hr8.new hb902
    replace hr13 := hr13.new hb902
    replace hr6 := hr6.new hb902
    replace hB := hB.acc hb902
    have hr8_d902 := hr8
    have hr13_d902 := hr13
    have hr6_d902 := hr6
    have hB_d902 := hB
    refine WA_take 0 (by kernel_rfl) rfl (fun _ _ => rn_move) ?_
    refine WA_take 1 (by kernel_rfl) rfl (fun _ _ => rn_neq rfl rfl) ?_
    refine WA_take 2 (by kernel_rfl) rfl (fun _ _ => rn_move) ?_
    refine WA_fp 64 rfl ((by omega)) ?_
    refine WA_take 3 (by kernel_rfl) rfl (fun w' hS' => rn_load rfl (Ld.rowA (k := 128) (hr6_d902.kpd hS' (by first | (simp; done) | (simp; omega) | (simp [*]; done) | exact notLL (Or.inl (by omega)) | exact notLL (Or.inr (by simp)) | exact fun g hm => Nat.le_trans (by omega) (inLL hm).1 | (intro b o e; cases e; exact notLL (Or.inl (by omega))))) (by kernel_rfl) (by kernel_rfl) (by first | (simp; done) | (simp [bv_length, *]; done) | assumption))) ?_
    refine WA_take 4 (by kernel_rfl) rfl (fun _ _ => rn_move) ?_
    refine WA_take 5 (by kernel_rfl) rfl (fun _ _ => rn_move) ?_
    refine WA_take 6 (by kernel_rfl) rfl (fun _ _ => rn_indexSl (e := 34) (sz := 128) (by kernel_rfl) rfl rfl (i) (by omega) (by omega)) ?_
    refine WA_take 7 (by kernel_rfl) rfl (fun w' hS' => rn_load rfl (ld_sec ((hr13_d902.kpd hS' (by first | (simp; done) | (simp; omega) | (simp [*]; done) | exact notLL (Or.inl (by omega)) | exact notLL (Or.inr (by simp)) | exact fun g hm => Nat.le_trans (by omega) (inLL hm).1 | (intro b o e; cases e; exact notLL (Or.inl (by omega))))).slA (m := 2) (sz := 128) (by rw [bv_length]; exact hYTl) (by omega)) hYT hS)) ?_
    refine WA_take 8 (by kernel_rfl) rfl (fun _ _ => rn_neqA (n := 128) (by kernel_rfl) rfl rfl hSl hSl) ?_
    refine WA_take 9 (by kernel_rfl) rfl (fun _ _ => rn_pick_f rfl) ?_
    refine WA_done (by kernel_rfl) ?_
    refine thenN ?_
    refine W_fn rfl ((by simp)) ?_
    refine W_skip ?_
    refine blockN ?_
    refine thenN ?_
    refine W_region ?_
    refine WR_val rfl (rn_move) ?_
    refine WR_val rfl (rn_add rfl rfl (Coup.w64 (by omega))) ?_
    refine WR_val rfl (rn_assign) ?_
    refine WR_nil ?_
    refine loopN ⟨i + 1, by omega, ⟨by go_num, rfl, rfl, rfl⟩, by omega, hr8, hr13, hB⟩
  ·
    refine W_exit ?_
    refine thenX ?_
    refine loopX ?_
    refine blockX ?_
    refine thenN ?_
    refine W_seq ?_
    refine W_region ?_
    refine WR_val rfl (rn_assign) ?_
    refine WR_nil ?_
    refine thenN ?_
    refine W_ret ?_
    refine ret_ret [_] ⟨rfl, trivial⟩ ?_
    exact ⟨rfl, hB⟩
end Go.Proofs.Ytpndhildmfmcgaa
