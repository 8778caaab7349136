/- A record laid into a view's slot. -/
import Derived.Test.YtjdcopfnhkfimaaPageF
namespace Go.Proofs.Ytjdcopfnhkfimaa
open Go Go.RowKit Coup

/-! ### What is done to a view, plainly -/
def setS (S : List (Option (List UInt8))) (i : Nat) (r : List UInt8) : List (Option (List UInt8)) := if i = S.length then S ++ [some r] else S.set i (some r)
def withV (V : View) (i : Nat) (r : List UInt8) : View := { V with slots := setS V.slots i r }
theorem lenS_set : ∀ (S : List (Option (List UInt8))) (i : Nat) (s : Option (List UInt8)), lenS (S.set i s) ≤ lenS S + (bod s).length
  | [], i, s => by simp [lenS]
  | t :: S, 0, s => by simp [lenS]; omega
  | t :: S, i + 1, s => by simp only [List.set_cons_succ, lenS]; have := lenS_set S i s; omega
theorem setS_size (V : View) (i : Nat) (r : List UInt8) : sizeV (withV V i r) ≤ sizeV V + 4 + r.length := by
  unfold sizeV withV setS
  dsimp only
  split
  · rw [lenS_app, List.length_append]; simp [lenS, bod]; omega
  · rw [List.length_set]; have := lenS_set V.slots i (some r); simp only [bod, Option.getD_some] at this; omega
namespace SltsAt
variable {w w' : World} {lo : Nat} {o : List Nat} {vs : List Value} {S : List (Option (List UInt8))}
theorem setS {b off c i : Nat} {r : List UInt8} (h : SltsAt w lo o vs S) (h2 : SlAt w (some ⟨b, off, none⟩) r.length 1 (bv r)) (h3 : b < w.heap.size) (h4 : b ∉ o) (h5 : lo ≤ b) : SltsAt w lo o (vs.set i (.slice (some ⟨b, off, none⟩) r.length c)) (S.set i (some r)) := by
  have hl := h.len
  refine ⟨by simp [hl], fun j hj => ?_, fun j r' hj => ?_⟩
  · rw [List.getElem?_set] at hj ⊢
    by_cases h6 : i = j
    · rw [if_pos h6] at hj; split at hj <;> cases hj
    · rw [if_neg h6] at hj ⊢; exact h.no j hj
  · rw [List.getElem?_set] at hj ⊢
    by_cases h6 : i = j
    · rw [if_pos h6] at hj ⊢
      by_cases h7 : i < S.length
      · rw [if_pos h7] at hj
        rw [if_pos (by omega)]
        cases hj
        exact ⟨b, off, c, rfl, h2, h3, h4, h5⟩
      · rw [if_neg h7] at hj; cases hj
    · rw [if_neg h6] at hj ⊢; exact h.yes j r' hj
theorem setN {i : Nat} (h : SltsAt w lo o vs S) : SltsAt w lo o (vs.set i (.slice none 0 0)) (S.set i none) := by
  have hl := h.len
  refine ⟨by simp [hl], fun j hj => ?_, fun j r' hj => ?_⟩
  · rw [List.getElem?_set] at hj ⊢
    by_cases h6 : i = j
    · rw [if_pos h6] at hj ⊢
      by_cases h7 : i < S.length
      · rw [if_pos (by omega)]
      · rw [if_neg h7] at hj; cases hj
    · rw [if_neg h6] at hj ⊢; exact h.no j hj
  · rw [List.getElem?_set] at hj ⊢
    by_cases h6 : i = j
    · rw [if_pos h6] at hj; split at hj <;> cases hj
    · rw [if_neg h6] at hj ⊢; exact h.yes j r' hj
theorem cutS {i : Nat} (h : SltsAt w lo o vs S) (hi : i ≤ S.length) : SltsAt w lo o (vs.take i) (S.take i) := by
  have hl := h.len
  refine ⟨by simp [hl], fun j hj => ?_, fun j r' hj => ?_⟩
  · rw [List.getElem?_take] at hj ⊢
    split at hj
    · rename_i h1; rw [if_pos h1]; exact h.no j hj
    · cases hj
  · rw [List.getElem?_take] at hj ⊢
    split at hj
    · rename_i h1; rw [if_pos h1]; exact h.yes j r' hj
    · cases hj
end SltsAt
theorem splice_set {l : List Value} {i : Nat} {v : Value} (h : i < l.length) : splice l i [v] = l.set i v := splice_one h
theorem zeroP_len : (bv zeroP).length = 512 := by rw [bv_length, zeroP, List.length_replicate]
set_option maxHeartbeats 2000000 in
theorem with24 (V : View) (p pr : Option Addr) (c cr i B : Nat) (vs : List Value) (r : List UInt8) (w : World) (hown : ownsAt w B 29 1 (.slice p V.slots.length c) V.slots.length vs) (hs : SltsAt w B (Value.ownBlock (.slice p V.slots.length c)).toList vs V.slots)
    (hBw : B ≤ w.heap.size) (hr : ∀ w', Below B w w' → SlAt w' pr r.length 1 (bv r)) (hi : i ≤ V.slots.length) (hr4 : r.length ≤ 400) (hz : sizeV V ≤ 512) (hk : V.kind < 256) (hn : V.next < 2147483648) :
    Calls Try.prog 24 [viewV V p V.slots.length c, .int .i64 (i : Int), .slice pr r.length cr].toArray w
      (Ret fun v w' => v = (if 512 < sizeV (withV V i r) then .tuple #[.agg (bv zeroP).toArray, .int .i64 8] else .tuple #[.agg (bv (bytesV (withV V i r))).toArray, .int .i64 0]) ∧ Below B w w') := by
  have hBB := BelB.refl hBw
  have hB := Below.refl w.heap.size w
  have hml : maxLen = 9223372036854775807 := by decide
  have hsz := setS_size V i r
  obtain ⟨S, hS⟩ : ∃ S, V.slots = S := ⟨_, rfl⟩
  obtain ⟨n, hn1⟩ : ∃ n, S.length = n := ⟨_, rfl⟩
  have hz2 := hz
  unfold sizeV at hz2
  rw [hS] at hown hs hi hz2 ⊢
  rw [hn1] at hown hs hi hz2 ⊢
  have hlt0 := hown.lt
  have hzl := zeroP_len
  unfold viewV
  refine calls_W (fn := Try.f24) (rs := [.cell 6 23, .tmp 7]) (n := 31) Try.func24 rfl rfl Try.ntmps24 (by kernel_rfl) rfl ?_
  refine W_seq ?_
  refine W_region ?_
  refine WR_mk rfl (mk_box ([_, _, _]) rfl (fun g3 w3 hg3 hr3 hb3 => ?_))
  have ge_hBB_g3 := Nat.le_trans hBB.size hg3
  have ge_hB_g3 := Nat.le_trans hB.size hg3
  replace hown := hown.new hb3
  replace hBB := hBB.acc hb3
  replace hB := hB.acc hb3
  refine WR_mk rfl (mk_alloc (List.replicate 512 (Value.int .u8 0)) (by kernel_rfl) (fun g6 w6 hg6 hr6 hb6 => ?_))
  have ge_hBB_g6 := Nat.le_trans hBB.size hg6
  have ge_hB_g6 := Nat.le_trans hB.size hg6
  have lt_g3_g6 : g3 < g6 := Nat.lt_of_lt_of_le hr3.lt hg6
  replace hown := hown.new hb6
  replace hr3 := hr3.new hb6
  replace hBB := hBB.acc hb6
  replace hB := hB.acc hb6
  rw [bv_zeroP] at hr6
  have hs := (hs.avoid (o' := (Value.ownBlock (.slice p n c)).toList ++ [g3, g6]) (fun g hm => by
    rcases List.mem_append.1 hm with e | e
    · exact Or.inl e
    · simp only [List.mem_cons, List.not_mem_nil, or_false] at e
      omega)).new hB
  refine WR_val rfl (rn_assign) ?_
  refine WR_nil ?_
  refine thenN ?_
  refine W_cut (fun q : Option Addr × Nat × Nat × List Value => [(3, .pointer (some ⟨g3, 0, none⟩)), (6, .pointer (some ⟨g6, 0, none⟩)), (1, .int .i64 (i : Nat)), (2, .slice pr r.length cr)]) (fun q w' => row w' g3 [.int .i64 (V.kind : Int), .int .i64 (V.next : Int), .slice q.1 q.2.1 q.2.2.1] 48 ∧ row w' g6 (bv zeroP) 23 ∧ ownsAt w' B 29 1 (.slice q.1 q.2.1 q.2.2.1) q.2.1 q.2.2.2 ∧ SltsAt w' B ((Value.ownBlock (.slice q.1 q.2.1 q.2.2.1)).toList ++ [g3, g6]) q.2.2.2 (if i = n then S ++ [none] else S) ∧ q.2.1 = (if i = n then S ++ [none] else S).length ∧ (Value.ownBlock (.slice q.1 q.2.1 q.2.2.1) ≠ some g3 ∧ Value.ownBlock (.slice q.1 q.2.1 q.2.2.1) ≠ some g6) ∧ BelB B w w') ?_ ?_
  ·
    refine W_seq ?_
    refine W_region ?_
    refine WR_val rfl (rn_move) ?_
    refine WR_val rfl (rn_fieldAddr (off := 2) (by kernel_rfl) rfl) ?_
    refine WR_val rfl (rn_load rfl (Ld.row1 hr3 (by kernel_rfl) rfl)) ?_
    refine WR_val rfl (rn_lenSl (e := 29) (sz := 1) (by kernel_rfl) rfl rfl) ?_
    refine WR_val rfl (rn_eql rfl rfl) ?_
    refine WR_nil ?_
    refine thenN ?_
    refine W_ifp rfl (fun he => ?_) (fun he => ?_)
    ·
      refine W_region ?_
      refine WR_val rfl (rn_fieldAddr (off := 2) (by kernel_rfl) rfl) ?_
      refine WR_val rfl (rn_load rfl (Ld.row1 hr3 (by kernel_rfl) rfl)) ?_
      refine WR_mk rfl (mk_one (e := 29) (.slice none 0 0) ([.slice none 0 0]) ([Value.slice none 0 0]) 1 (by kernel_rfl) (by kernel_rfl) rfl rfl rfl ⟨by decide, by decide⟩ (fun g15 w15 hg15 hr15 hb15 => ?_))
      have ge_hBB_g15 := Nat.le_trans hBB.size hg15
      have lt_g3_g15 : g3 < g15 := Nat.lt_of_lt_of_le hr3.lt hg15
      have lt_g6_g15 : g6 < g15 := Nat.lt_of_lt_of_le hr6.lt hg15
      replace hown := hown.new hb15
      replace hr3 := hr3.new hb15
      replace hr6 := hr6.new hb15
      replace hs := hs.new hb15
      replace hBB := hBB.acc hb15
      have hs15 := hr15.slA (m := 1) (sz := 1) rfl (by omega)
      have sz_hBB_16 := hBB.size
      refine WR_mk rfl (mk_append (e := 29) (sz := 1) (bytes := 24) (z := Value.slice none 0 0) (by kernel_rfl) rfl (by kernel_rfl) rfl (by decide) rfl hown rfl hs15 (by simp [Value.oneCell']) (by unfold maxLen; omega) (by omega) (fun hm0 => by omega) (fun v16 w16 hv16 hgr16 hfr16 => ?_))
      replace hBB := hBB.own hown hgr16 (by omega)
      have hform := hv16.form
      obtain ⟨p16, c16, rfl⟩ := hform
      have hs := (hs.growL hgr16 hfr16).snocN
      have hn3 : g3 ∉ (Value.ownBlock (.slice p n c)).toList := fun hm => by have := (hlt0 g3 (Option.mem_toList.1 hm)).2; omega
      have hn6 : g6 ∉ (Value.ownBlock (.slice p n c)).toList := fun hm => by have := (hlt0 g6 (Option.mem_toList.1 hm)).2; omega
      have h163 : Value.ownBlock (.slice p16 (n + 1) c16) ≠ some g3 := fun e => (hfr16 g3 e).elim (fun e => hn3 (Option.mem_toList.2 e)) (fun e => by have := hr3.lt; omega)
      have h166 : Value.ownBlock (.slice p16 (n + 1) c16) ≠ some g6 := fun e => (hfr16 g6 e).elim (fun e => hn6 (Option.mem_toList.2 e)) (fun e => by have := hr6.lt; omega)
      have hr3 := hr3.kpd (Kp.of_grown hgr16) hn3
      have hr6 := hr6.kpd (Kp.of_grown hgr16) hn6
      refine WR_val rfl (rn_fieldAddr (off := 2) (by kernel_rfl) rfl) ?_
      refine WR_sk rfl (sk_store1 rfl rfl rfl rfl hr3 (by kernel_rfl) (by first | (simp only [List.length_replicate]; omega) | (simp only [iv_length]; omega) | (simp only [bv_length, List.length_set]; omega) | simp) (fun w901 hr3 ho901 => ?_))
      replace hs := hs.only ho901 (by simp)
      replace hr6 := hr6.only ho901 (Nat.ne_of_gt lt_g3_g6)
      replace hBB := hBB.onlyB ho901 ge_hBB_g3
      have hv16 := ownsAt.onlyN hv16 (by assumption : Only g3 _ w901) h163
      refine WR_nil ?_
      refine loopN ⟨(p16, n + 1, c16, vs ++ [.slice none 0 0]), ⟨rfl, rfl, rfl, rfl, rfl⟩, hr3, hr6, hv16, ?_, ?_, ⟨h163, h166⟩, hBB⟩
      · rw [if_pos (by omega)]; exact hs
      · rw [if_pos (by omega), List.length_append, hn1]; rfl
    ·
      refine W_skip ?_
      refine loopN ⟨(p, n, c, vs), ⟨rfl, rfl, rfl, rfl, rfl⟩, hr3, hr6, hown, ?_, ?_, ⟨fun e => by have := (hlt0 g3 e).2; omega, fun e => by have := (hlt0 g6 e).2; omega⟩, hBB⟩
      · rw [if_neg (by omega)]; exact hs
      · rw [if_neg (by omega), hn1]
  ·
    rintro ⟨q, m, c', vs'⟩ f2 wz ⟨hr3, hr6, hown, hs, hm, ⟨h3, h6⟩, hBB⟩
    simp only at hr3 hown hs hm h3 h6
    obtain ⟨S', hS'⟩ : ∃ S', (if i = n then S ++ [none] else S) = S' := ⟨_, rfl⟩
    rw [hS'] at hs hm
    have him : i < m := by
      rw [hm, ← hS']
      split
      · rw [List.length_append]; simp; omega
      · omega
    have hset : S'.set i (some r) = setS S i r := by
      rw [← hS', setS, hn1]
      split
      · rename_i h; rw [h, ← hn1, List.set_append_right _ _ (Nat.le_refl _), Nat.sub_self]; rfl
      · rfl
    have hlen : (withV V i r).slots.length = m := by
      show (setS V.slots i r).length = m
      rw [hS, ← hset, List.length_set, ← hm]
    have hslots : (withV V i r).slots = setS S i r := by
      show setS V.slots i r = _
      rw [hS]
    obtain ⟨g, o, cc, e0, hBg, hgl, -⟩ := hown.form' (by omega)
    injection e0 with e1 e2 e3
    subst e1 e3
    have hG : OwnG wz B 29 1 g o m c' vs' := hown
    have hvl : vs'.length = m := by have := hown.1; omega
    replace hs : SltsAt wz B [g, g3, g6] vs' S' := hs
    have hg3 : g ≠ g3 := fun e => h3 (by rw [e]; rfl)
    have hg6 : g ≠ g6 := fun e => h6 (by rw [e]; rfl)
    refine W_seq ?_
    refine W_draw' [g] (by kernel_rfl) ?_
    intro w902 hb902 hS902
    replace hr3 := hr3.new hb902
    replace hr6 := hr6.new hb902
    replace hs := hs.new hb902
    replace hG := hG.new hb902
    replace hBB := hBB.acc hb902
    have hr3_d902 := hr3
    have hr6_d902 := hr6
    have hs_d902 := hs
    have hG_d902 := hG
    have hBB_d902 := hBB
    refine WA_take 0 (by kernel_rfl) rfl (fun _ _ => rn_fieldAddr (off := 2) (by kernel_rfl) rfl) ?_
    refine WA_take 1 (by kernel_rfl) rfl (fun w' hS' => rn_load rfl (Ld.row1 (hr3_d902.kpd hS' (by first | (simp; done) | (simp; omega) | (simp [*]; done))) (by kernel_rfl) rfl)) ?_
    refine WA_take 2 (by kernel_rfl) rfl (fun _ _ => rn_move) ?_
    refine WA_take 4 (by kernel_rfl) rfl (fun _ _ => rn_move) ?_
    refine WA_one 3 (by kernel_rfl) ?_
    refine WO_mk rfl rfl (mk_empty (e := 5) (sz := 1) (by kernel_rfl) (by kernel_rfl) (fun g21 w21 hg21 hr21 hb21 => ?_))
    have hS903 := hS902.add0 hb21
    refine ⟨hS903, ?_⟩
    have ge_hS902_g21 := Nat.le_trans hS902.size hg21
    have ge_hBB_g21 := Nat.le_trans hBB.size hg21
    have lt_g3_g21 : g3 < g21 := Nat.lt_of_lt_of_le hr3.lt hg21
    have lt_g6_g21 : g6 < g21 := Nat.lt_of_lt_of_le hr6.lt hg21
    have lt_g_g21 : g < g21 := Nat.lt_of_lt_of_le hG.lt hg21
    replace hr3 := hr3.new hb21
    replace hr6 := hr6.new hb21
    replace hs := hs.new hb21
    replace hG := hG.new hb21
    replace hBB := hBB.acc hb21
    refine WA_one 5 (by kernel_rfl) ?_
    have l3 := hr3.lt
    have l6 := hr6.lt
    have lG := hG.lt
    have lB := hBB.size
    refine WO_mk rfl rfl (mk_appendE (e := 5) (sz := 1) (bytes := 1) (z := .int .u8 0) (by kernel_rfl) rfl (by kernel_rfl) rfl (by decide) rfl hr21.lt rfl (hr _ hBB.bel) (by omega) (by omega) (fun g23 o23 c23 w23 hx23 hg23 hlt23 hb23 => ?_))
    have hS904 := hS903.add0 hb23
    refine ⟨hS904, ?_⟩
    replace hr3 := hr3.new hb23
    replace hr6 := hr6.new hb23
    replace hs := hs.new hb23
    replace hG := hG.new hb23
    replace hBB := hBB.acc hb23
    have hgb : g < g23 ∧ g3 < g23 ∧ g6 < g23 ∧ B ≤ g23 := by rcases hg23 with h | h <;> omega
    refine WA_take 6 (by kernel_rfl) rfl (fun _ _ => rn_indexSl1 (e := 29) (by kernel_rfl) rfl rfl (i) (by omega) (by omega)) ?_
    refine WA_one 7 (by kernel_rfl) ?_
    refine WO_sk rfl rfl (sk_storeO ([.slice (some ⟨g23, o23, none⟩) r.length c23]) (i) hG rfl rfl (by kernel_rfl) (by first | (simp only [iv_length, List.length_cons, List.length_nil]; omega) | omega | (simp; omega)) (by simp [Value.oneCell']) (fun w906 hG ho906 => ?_))
    have hS905 := hS904.add1 ho906 (by first | (left; omega) | (right; simp; done) | (right; simp; omega))
    refine ⟨hS905, ?_⟩
    replace hr3 := hr3.only ho906 (by omega)
    replace hr6 := hr6.only ho906 (by omega)
    replace hs := hs.only ho906 (by simp)
    replace hx23 := hx23.only ho906 (by omega)
    replace hBB := hBB.onlyB ho906 (by omega)
    rw [splice_set (by omega)] at hG
    have hs := hs.setS (i := i) (c := c23) hx23 (by rw [ho906.size]; exact hlt23) (by simp; omega) (by omega)
    rw [hset] at hs
    have hSz := fun (w' : World) (h1 : SlAt w' (some ⟨g, o, none⟩) m 1 (vs'.set i (.slice (some ⟨g23, o23, none⟩) r.length c23))) (h2 : SltsAt w' B [g, g3, g6] (vs'.set i (.slice (some ⟨g23, o23, none⟩) r.length c23)) (setS S i r)) => size25 (withV V i r) (some ⟨g, o, none⟩) c' _ w' B _ (by rw [hlen]; exact h1) (by rw [hslots]; exact h2) (by omega)
    rw [hlen] at hSz
    refine WA_done (by kernel_rfl) ?_
    refine thenN ?_
    refine W_seq ?_
    refine W_seq ?_
    refine W_region ?_
    refine WR_val rfl (rn_load rfl (Ld.rowA (k := 3) hr3 (by kernel_rfl) (by kernel_rfl) (by first | (simp; done) | (simp [bv_length, *]; done) | assumption))) ?_
    refine WR_ent rfl (rn_call (by kernel_rfl) rfl) (hSz w906 hG.sl hs) ?_
    rintro _ w26 ⟨rfl, hb26⟩
    replace hr3 := hr3.new hb26
    replace hr6 := hr6.new hb26
    replace hs := hs.new hb26
    replace hG := hG.new hb26
    replace hx23 := hx23.new hb26
    replace hBB := hBB.acc hb26
    refine WR_val rfl (rn_gtr rfl rfl) ?_
    refine WR_nil ?_
    refine thenN ?_
    refine W_ifp rfl (fun hfull => ?_) (fun hfull => ?_)
    ·
      refine W_seq ?_
      refine W_region ?_
      refine WR_val rfl (rn_zeroed (bv zeroP) (by rw [← bv_zeroP]; kernel_rfl)) ?_
      refine WR_sk rfl (sk_storeA 512 (bv zeroP) rfl rfl hr6 (by kernel_rfl) (by first | assumption | (simp; done) | (simp [bv_length, *]; done)) (by first | assumption | (simp; done) | (simp [bv_length, *]; done) | rfl) (by first | exact bv_one _ | assumption | (simp [Value.oneCell']; done)) (fun w907 hr6 ho907 => ?_))
      replace hr3 := hr3.only ho907 (Nat.ne_of_lt lt_g3_g6)
      replace hs := hs.only ho907 (by simp)
      replace hG := hG.only ho907 (by omega)
      replace hx23 := hx23.only ho907 (by omega)
      replace hBB := hBB.onlyB ho907 ge_hBB_g6
      refine WR_val rfl (rn_assign) ?_
      refine WR_nil ?_
      refine thenN ?_
      refine W_ret ?_
      refine thenR ?_
      refine ret_ret [_, _] ⟨⟨_, rfl, Ld.rowA (k := 512) hr6 (by kernel_rfl) (by kernel_rfl) (by first | (simp; done) | (simp [bv_length, *]; done) | assumption)⟩, rfl, trivial⟩ ?_
      exact ⟨by rw [if_pos (by omega)]; rfl, hBB.bel⟩
    ·
      have hPg := fun (w' : World) (h1 : SlAt w' (some ⟨g, o, none⟩) m 1 (vs'.set i (.slice (some ⟨g23, o23, none⟩) r.length c23))) (h2 : SltsAt w' B [g, g3, g6] (vs'.set i (.slice (some ⟨g23, o23, none⟩) r.length c23)) (setS S i r)) => page21 (withV V i r) (some ⟨g, o, none⟩) c' _ w' B _ (by rw [hlen]; exact h1) (by rw [hslots]; exact h2) hk hn (by omega)
      rw [hlen] at hPg
      have hbl2 : (bv (bytesV (withV V i r))).length = 512 := by rw [bv_length]; exact bytesV_len (withV V i r) (by omega)
      refine W_skip ?_
      refine thenN ?_
      refine W_seq ?_
      refine W_region ?_
      refine WR_val rfl (rn_load rfl (Ld.rowA (k := 3) hr3 (by kernel_rfl) (by kernel_rfl) (by first | (simp; done) | (simp [bv_length, *]; done) | assumption))) ?_
      refine WR_ent rfl (rn_call (by kernel_rfl) rfl) (hPg w26 hG.sl hs) ?_
      rintro _ w30 ⟨rfl, hb30⟩
      replace hr3 := hr3.new hb30
      replace hr6 := hr6.new hb30
      replace hs := hs.new hb30
      replace hG := hG.new hb30
      replace hx23 := hx23.new hb30
      replace hBB := hBB.acc hb30
      refine WR_sk rfl (sk_storeA 512 (bv (bytesV (withV V i r))) rfl rfl hr6 (by kernel_rfl) (by first | assumption | (simp; done) | (simp [bv_length, *]; done)) (by first | assumption | (simp; done) | (simp [bv_length, *]; done) | rfl) (by first | exact bv_one _ | assumption | (simp [Value.oneCell']; done)) (fun w908 hr6 ho908 => ?_))
      replace hr3 := hr3.only ho908 (Nat.ne_of_lt lt_g3_g6)
      replace hs := hs.only ho908 (by simp)
      replace hG := hG.only ho908 (by omega)
      replace hx23 := hx23.only ho908 (by omega)
      replace hBB := hBB.onlyB ho908 ge_hBB_g6
      refine WR_val rfl (rn_assign) ?_
      refine WR_nil ?_
      refine thenN ?_
      refine W_ret ?_
      refine ret_ret [_, _] ⟨⟨_, rfl, Ld.rowA (k := 512) hr6 (by kernel_rfl) (by kernel_rfl) (by first | (simp; done) | (simp [bv_length, *]; done) | assumption)⟩, rfl, trivial⟩ ?_
      exact ⟨by rw [if_neg (by omega)]; rfl, hBB.bel⟩
end Go.Proofs.Ytjdcopfnhkfimaa
