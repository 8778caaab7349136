/- Rows one behind the other are read one by one: the law HalfApart. -/
import Derived.Test.YtnlocpldghpfcaaHalfS
namespace Go.Proofs.Ytnlocpldghpfcaa
open Go Go.RowKit Coup

def rowOf (x : RowD) : List UInt8 := rowB x.1.toNat x.2.1.toNat x.2.2
def secN (x : RowD) : Nat := needN x.2.2.length
def allR (R : List RowD) : List UInt8 := R.flatMap rowOf
def allN (R : List RowD) : Nat := (R.map secN).sum
theorem allR_cons (x : RowD) (R : List RowD) : allR (x :: R) = rowOf x ++ allR R := rfl
theorem allN_cons (x : RowD) (R : List RowD) : allN (x :: R) = secN x + allN R := by simp [allN]
theorem allR_snoc (x : RowD) (R : List RowD) : allR (R ++ [x]) = allR R ++ rowOf x := by simp [allR]
theorem allN_snoc (x : RowD) (R : List RowD) : allN (R ++ [x]) = allN R + secN x := by simp [allN]
theorem rowOf_len (x : RowD) : (rowOf x).length = 128 * secN x := rowB_len _ _ _
theorem allR_len : ∀ R : List RowD, (allR R).length = allN R * 128
  | [] => rfl
  | x :: R => by rw [allR_cons, List.length_append, allR_len R, rowOf_len, allN_cons]; omega
theorem secN_le {x : RowD} (h : okRow x) : secN x ≤ 32 := by have := h.2; unfold secN needN manyN; omega
theorem allN_le : ∀ R : List RowD, (∀ x, x ∈ R → okRow x) → allN R ≤ 32 * R.length
  | [], _ => Nat.le_refl _
  | x :: R, h => by
    have h1 := allN_le R fun y hy => h y (by simp [hy])
    have h2 := secN_le (h x (by simp))
    rw [allN_cons, List.length_cons]; omega
theorem Good.mem {R : List RowD} (h : Good R) {x : RowD} (hx : x ∈ R) : okRow x := by
  obtain ⟨i, hi⟩ := List.mem_iff_getElem?.1 hx
  exact h.ok i x hi
theorem Good.dropN {R : List RowD} (h : Good R) (i : Nat) : allN (R.drop i) ≤ 160 := by
  have h1 := allN_le (R.drop i) fun x hx => h.mem (List.mem_of_mem_drop hx)
  have h2 := h.few
  rw [List.length_drop] at h1; omega
theorem Good.takeN {R : List RowD} (h : Good R) (i : Nat) : allN (R.take i) ≤ 160 := by
  have h1 := allN_le (R.take i) fun x hx => h.mem (List.mem_of_mem_take hx)
  have h2 := h.few
  rw [List.length_take] at h1; omega
theorem sec_half (L : List UInt8) : (secAt L 0).take 64 = halfAt L 0 := by
  rw [secAt, halfAt, Nat.mul_zero, List.drop_zero, List.take_take]; rfl
theorem SlAt_tail {w : World} {q : Option Addr} {N n cap : Nat} {L : List UInt8} (h : SlAt w q N 128 (bv L)) (hn : n ≤ N) (hc : N ≤ cap) : SlAt w (if cap = n then q else q.map (·.add (n * 128))) (N - n) 128 (bv (L.drop (n * 128))) := by
  have hl : L.length = N * 128 := by simpa [bv_length] using h.len
  refine ⟨by rw [bv_length, List.length_drop, hl, Nat.sub_mul], Nat.le_trans (Nat.sub_le _ _) h.max, fun h0 => ?_⟩
  obtain ⟨g, o, rfl, hg⟩ := h.some (by omega)
  have hs := h.sub n (N - n) (by omega)
  rw [if_neg (by omega), Option.map_some, Addr.add_lit]
  rw [← bv_drop, List.take_of_length_le (by rw [bv_length, List.length_drop]; omega)] at hs
  exact hs.at_ h0

theorem SlAt_tail' {w : World} {q : Option Addr} {N n cap : Nat} {L : List UInt8} (h : SlAt w q N 128 (bv L)) (hn : n ≤ N) (hc : N ≤ cap) : ∃ Q, (if cap = n then q else q.map (·.add (n * 128))) = Q ∧ SlAt w Q (N - n) 128 (bv (L.drop (n * 128))) := ⟨_, rfl, SlAt_tail h hn hc⟩
set_option maxHeartbeats 2000000 in
theorem apartC (p : Option Addr) (n cp : Nat) (R : List RowD) (w : World) (h : RowsAt w p n R) :
    Calls Try.prog 7 [.slice p n cp].toArray w (Ret fun v w' => v = .bool true ∧ Below w.heap.size w w') := by
  have hB := Below.refl w.heap.size w
  have hRl := h.1
  refine calls_W (fn := Try.f7) (rs := [.tmp 2]) (n := 102) Try.func7 rfl rfl Try.ntmps7 (by kernel_rfl) rfl ?_
  refine W_seq ?_
  refine W_region ?_
  refine WR_val rfl (rn_assign) ?_
  refine WR_nil ?_
  refine thenN ?_
  refine W_seq ?_
  refine W_seq ?_
  refine W_region ?_
  refine WR_val rfl (rn_move) ?_
  refine WR_ent rfl (rn_call (by kernel_rfl) rfl) (rowsC p n cp R w h) ?_
  rintro _ w13 ⟨B, rfl, hgood, hb13⟩
  replace hB := hB.acc hb13
  refine WR_val rfl (rn_not rfl) ?_
  refine WR_nil ?_
  refine thenN ?_
  refine W_ifnb rfl (fun hb => ?_) (fun hb => ?_)
  ·
    refine W_seq ?_
    refine W_region ?_
    refine WR_ent rfl (rn_call (by kernel_rfl) rfl) (knownC w13) ?_
    rintro _ w15 ⟨rfl, hb15⟩
    replace hB := hB.acc hb15
    refine WR_val rfl (rn_assign) ?_
    refine WR_nil ?_
    refine thenN ?_
    refine W_ret ?_
    refine thenR ?_
    refine ret_ret [_] ⟨rfl, trivial⟩ ?_
    exact ⟨rfl, hB⟩
  ·
    have hG := hgood hb
    have hfew := hG.few
    refine W_skip ?_
    refine thenN ?_
    refine W_seq ?_
    refine W_region ?_
    refine WR_val rfl (rn_assign) ?_
    refine WR_nil ?_
    refine thenN ?_
    refine W_seq ?_
    refine W_seq ?_
    refine W_region ?_
    refine WR_val rfl (rn_assign) ?_
    refine WR_nil ?_
    refine thenN ?_
    refine W_block ?_
    refine W_loop (α := Nat × Value) (0, .slice none 0 0) (fun k => [(4, .int .i64 (k.1 : Nat)), (3, k.2), (0, .slice p n cp)])
      (fun k w' => k.1 ≤ n ∧ ownsAt w' w.heap.size 48 128 k.2 (allN (R.take k.1)) (bv (allR (R.take k.1))) ∧ Below w.heap.size w w') (fun k => n - k.1)
      ⟨rfl, rfl, rfl, rfl⟩ ⟨Nat.zero_le _, ownsAt_nil _ _ _ _, hB⟩ ?_
    rintro ⟨i, v3⟩ f wr ⟨hi, hv3, hB⟩
    simp only at hi hv3
    have hBi := Below.refl wr.heap.size wr
    have hszr := hB.size
    refine W_seq ?_
    refine W_seq ?_
    refine W_region ?_
    refine WR_val rfl (rn_move) ?_
    refine WR_val rfl (rn_move) ?_
    refine WR_val rfl (rn_lenSl (e := 40) (sz := 3) (by kernel_rfl) rfl rfl) ?_
    refine WR_val rfl (rn_lss rfl rfl) ?_
    refine WR_nil ?_
    refine thenN ?_
    refine W_ifp rfl (fun hlt => ?_) (fun hlt => ?_)
    ·
      refine W_skip ?_
      refine thenN ?_
      refine W_seq ?_
      refine W_block ?_
      refine W_seq ?_
      have hobt := h.get (i := i) (by omega)
      obtain ⟨c, k, l, hx⟩ := hobt
      have hobt := h.some (by omega)
      obtain ⟨g, o, rfl, hg⟩ := hobt
      have hobt := h.ldS hx
      obtain ⟨q, qc, hld, hq⟩ := hobt
      have hobt := hG.ok i _ hx
      obtain ⟨hm, hl3⟩ := hobt
      simp only at hm hl3
      have hmb := may_bounds hm
      have hobt : ∃ z : Nat, c = z := ⟨c.toNat, by omega⟩
      obtain ⟨c', rfl⟩ := hobt
      have hobt : ∃ z : Nat, k = z := ⟨k.toNat, by omega⟩
      obtain ⟨k', rfl⟩ := hobt
      refine W_draw' [] (by kernel_rfl) ?_
      intro w901 hb901 hS901
      replace hB := hB.acc hb901
      replace hBi := hBi.acc hb901
      have hB_d901 := hB
      have hBi_d901 := hBi
      refine WA_take 0 (by kernel_rfl) rfl (fun _ _ => rn_move) ?_
      refine WA_take 1 (by kernel_rfl) rfl (fun _ _ => rn_move) ?_
      refine WA_take 2 (by kernel_rfl) rfl (fun _ _ => rn_indexSl (e := 40) (sz := 3) (by kernel_rfl) rfl rfl (i) (by omega) (by omega)) ?_
      refine WA_take 3 (by kernel_rfl) rfl (fun _ _ => rn_fieldAddr (off := 0) (by kernel_rfl) rfl) ?_
      refine WA_take 4 (by kernel_rfl) rfl (fun w' hS' => rn_load rfl ((h.below (hB_d901.kpd hS' (by first | (simp; done) | (simp; omega)))).ldT hx)) ?_
      refine WA_take 5 (by kernel_rfl) rfl (fun _ _ => rn_move) ?_
      refine WA_take 6 (by kernel_rfl) rfl (fun _ _ => rn_move) ?_
      refine WA_take 7 (by kernel_rfl) rfl (fun _ _ => rn_indexSl (e := 40) (sz := 3) (by kernel_rfl) rfl rfl (i) (by omega) (by omega)) ?_
      refine WA_take 8 (by kernel_rfl) rfl (fun _ _ => rn_fieldAddr (off := 2) (by kernel_rfl) rfl) ?_
      refine WA_take 9 (by kernel_rfl) rfl (fun w' hS' => rn_load rfl (hld _ (hB_d901.kpd hS' (by first | (simp; done) | (simp; omega))))) ?_
      refine WA_one 10 (by kernel_rfl) ?_
      refine WO_ent rfl rfl (rn_call (by kernel_rfl) rfl) (split_yes c' k' hm l q l.length qc w901 (hq.below hB (Nat.le_refl _)) (by omega)) ?_
      rintro _ w33 ⟨gr, rfl, hgr, hrr, hb33⟩
      have ge_hS901_gr := Nat.le_trans hS901.size hgr
      have ge_hB_gr := Nat.le_trans hB.size hgr
      have ge_hBi_gr := Nat.le_trans hBi.size hgr
      have hS902 := hS901.add0 hb33
      refine ⟨hS902, ?_⟩
      replace hB := hB.acc hb33
      replace hBi := hBi.acc hb33
      refine WA_take 11 (by kernel_rfl) rfl (fun _ _ => rn_move) ?_
      refine WA_take 12 (by kernel_rfl) rfl (fun _ _ => rn_extract rfl rfl) ?_
      refine WA_take 13 (by kernel_rfl) rfl (fun _ _ => rn_extract rfl rfl) ?_
      refine WA_take 14 (by kernel_rfl) rfl (fun _ _ => rn_assign) ?_
      refine WA_take 15 (by kernel_rfl) rfl (fun _ _ => rn_assign) ?_
      refine WA_done (by kernel_rfl) ?_
      refine thenN ?_
      refine W_region ?_
      refine WR_val rfl (rn_move) ?_
      refine WR_val rfl (rn_move) ?_
      have hrl := rowB_len c' k' l
      have hnb : needN l.length ≤ 1000 := by unfold needN manyN; omega
      have hsr := hrr.slA (m := needN l.length) (sz := 128) (by rw [bv_length, hrl]; omega) (by unfold maxLen; omega)
      have hv3 := hv3.new hBi
      have hszq := hBi.size
      have htk := hG.takeN i
      have sz_hB_38 := hB.size
      refine WR_mk rfl (mk_append (e := 48) (sz := 128) (bytes := 128) (z := .agg (List.replicate 128 (Value.int .u8 0)).toArray) (by kernel_rfl) rfl (by kernel_rfl) rfl (by decide) rfl hv3 rfl hsr (bv_one _) (by unfold maxLen; omega) (by omega) (fun hm0 => by omega) (fun v38 w38 hv38 hgr38 hfr38 => ?_))
      replace hB := hB.own hv3 hgr38 (by omega)
      refine WR_val rfl (rn_assign) ?_
      refine WR_nil ?_
      refine blockN ?_
      refine thenN ?_
      refine W_region ?_
      refine WR_val rfl (rn_move) ?_
      refine WR_val rfl (rn_add rfl rfl (Coup.w64 (by omega))) ?_
      refine WR_val rfl (rn_assign) ?_
      refine WR_nil ?_
      have htk1 : R.take (i + 1) = R.take i ++ [((c' : Int), (k' : Int), l)] := by rw [List.take_add_one, hx]; rfl
      refine loopN ⟨(i + 1, v38), by simp only; omega, ⟨rfl, by go_num, rfl, rfl⟩, by simp only; omega, ?_, hB⟩
      simp only
      rw [htk1, allR_snoc, allN_snoc, bv_append]
      exact hv38
    ·
      obtain rfl : i = n := by omega
      rw [List.take_of_length_le (by omega)] at hv3
      obtain ⟨q3, c3, rfl⟩ := hv3.form
      have hs3 := hv3.sl
      have hc3 : allN R ≤ c3 := by
        rcases Nat.eq_zero_or_pos (allN R) with h0 | h0
        · omega
        · obtain ⟨_, _, _, e, _, _, hcc⟩ := hv3.form' h0
          cases e; exact hcc
      refine W_exit ?_
      refine thenX ?_
      refine loopX ?_
      refine blockX ?_
      refine thenN ?_
      refine W_seq ?_
      refine W_seq ?_
      refine W_region ?_
      refine WR_val rfl (rn_assign) ?_
      refine WR_nil ?_
      refine thenN ?_
      refine W_block ?_
      refine W_loop (α := Nat × Option Addr × Nat) (0, q3, c3) (fun k => [(7, .int .i64 (k.1 : Nat)), (3, .slice k.2.1 (allN (R.drop k.1)) k.2.2), (0, .slice p i cp)])
        (fun k w' => k.1 ≤ i ∧ SlAt w' k.2.1 (allN (R.drop k.1)) 128 (bv (allR (R.drop k.1))) ∧ allN (R.drop k.1) ≤ k.2.2 ∧ Below w.heap.size w w') (fun k => i - k.1)
        ⟨rfl, rfl, rfl, rfl⟩ ⟨Nat.zero_le _, hs3, hc3, hB⟩ ?_
      rintro ⟨j, qj, cj⟩ f2 wz ⟨hj, hsj, hcj, hB⟩
      simp only at hj hsj hcj
      dsimp only
      have hBj := Below.refl wz.heap.size wz
      have hszz := hB.size
      by_cases hlt2 : j < i
      · obtain ⟨c, k, l, hx⟩ := h.get (i := j) (by omega)
        obtain ⟨g, o, rfl, hg⟩ := h.some (by omega)
        obtain ⟨q, qc, hld, hq⟩ := h.ldS hx
        obtain ⟨hm, hl3⟩ := hG.ok j _ hx
        simp only at hm hl3
        have hmb := may_bounds hm
        obtain ⟨c', rfl⟩ : ∃ z : Nat, c = z := ⟨c.toNat, by omega⟩
        obtain ⟨k', rfl⟩ : ∃ z : Nat, k = z := ⟨k.toNat, by omega⟩
        have hdr : R.drop j = ((c' : Int), (k' : Int), l) :: R.drop (j + 1) := by
          obtain ⟨hjl, he⟩ := List.getElem?_eq_some_iff.1 hx
          rw [List.drop_eq_getElem_cons hjl, he]
        have hN := hG.dropN j
        have hdn : allN (R.drop j) = needN l.length + allN (R.drop (j + 1)) := by rw [hdr, allN_cons]; rfl
        have hdl : allR (R.drop j) = rowB c' k' l ++ allR (R.drop (j + 1)) := by rw [hdr, allR_cons]; rfl
        have hrl := rowB_len c' k' l
        have hpos : 1 ≤ needN l.length := by unfold needN manyN; omega
        have hT := told_row c' k' l (allR (R.drop (j + 1))) (allN (R.drop j)) hm (by omega) (by omega) (by rw [← hdl, allR_len])
        rw [← hdl] at hT
        have htail : (allR (R.drop j)).drop (needN l.length * 128) = allR (R.drop (j + 1)) := by rw [hdl, drop_app _ _ _ (by rw [hrl]; omega)]
        have hLl := allR_len (R.drop j)
        have htg := tag_yes (h := halfAt (allR (R.drop j)) 0) (by rw [hT.c, hT.n]; exact hm)
        rw [hT.c, hT.n, ← sec_half] at htg
        generalize allR (R.drop j) = L at *
        generalize hM : allN (R.drop j) = M at *
        have hsl0 : (secAt L 0).length = 128 := secAt_len hLl (by omega)
        obtain ⟨gj, oj, rfl, hgj⟩ := hsj.some (by omega)
        refine W_seq ?_
        refine W_seq ?_
        refine W_region ?_
        refine WR_val rfl (rn_move) ?_
        refine WR_val rfl (rn_move) ?_
        refine WR_val rfl (rn_lenSl (e := 40) (sz := 3) (by kernel_rfl) rfl rfl) ?_
        refine WR_val rfl (rn_lss rfl rfl) ?_
        refine WR_nil ?_
        refine thenN ?_
        refine W_tp rfl ((by omega)) ?_
        refine W_skip ?_
        refine thenN ?_
        refine W_seq ?_
        refine W_block ?_
        refine W_seq ?_
        refine W_region ?_
        refine WR_val rfl (rn_move) ?_
        refine WR_ent rfl (rn_call (by kernel_rfl) rfl) (joinYes _ M cj c' k' l L wz (hsj.below hBj (Nat.le_refl _)) (by omega) hT) ?_
        rintro _ w47 ⟨sp, rfl, hsp, hb47⟩
        replace hB := hB.acc hb47
        replace hBj := hBj.acc hb47
        have hBk := Below.refl w47.heap.size w47
        refine WR_val rfl (rn_move) ?_
        refine WR_val rfl (rn_extract rfl rfl) ?_
        refine WR_val rfl (rn_extract rfl rfl) ?_
        refine WR_val rfl (rn_extract rfl rfl) ?_
        refine WR_val rfl (rn_extract rfl rfl) ?_
        refine WR_mk rfl (mk_alloc ([Value.int .u64 0, Value.int .i64 0]) (by kernel_rfl) (fun g8 w8 hg8 hr8 hb8 => ?_))
        have ge_hB_g8 := Nat.le_trans hB.size hg8
        have ge_hBj_g8 := Nat.le_trans hBj.size hg8
        have ge_hBk_g8 := Nat.le_trans hBk.size hg8
        replace hB := hB.acc hb8
        replace hBj := hBj.acc hb8
        replace hBk := hBk.acc hb8
        refine WR_sk rfl (sk_storeA 2 ([.int .u64 c', .int .i64 k']) rfl rfl hr8 (by kernel_rfl) (by first | assumption | (simp; done) | (simp [bv_length, *]; done)) (by first | (simp; done) | (simp [bv_length, *]; done) | rfl) (by first | exact bv_one _ | assumption | (simp [Value.oneCell']; done)) (fun w903 hr8 ho903 => ?_))
        replace hB := ho903.below hB ge_hB_g8
        replace hBj := ho903.below hBj ge_hBj_g8
        replace hBk := ho903.below hBk ge_hBk_g8
        refine WR_val rfl (rn_assign) ?_
        refine WR_val rfl (rn_assign) ?_
        refine WR_val rfl (rn_assign) ?_
        refine WR_nil ?_
        refine thenN ?_
        refine W_seq ?_
        refine W_seq ?_
        refine W_draw' [] (by kernel_rfl) ?_
        intro w904 hb904 hS904
        replace hr8 := hr8.new hb904
        replace hB := hB.acc hb904
        replace hBj := hBj.acc hb904
        replace hBk := hBk.acc hb904
        have hr8_d904 := hr8
        have hB_d904 := hB
        have hBj_d904 := hBj
        have hBk_d904 := hBk
        refine WA_take 0 (by kernel_rfl) rfl (fun _ _ => rn_move) ?_
        refine WA_take 1 (by kernel_rfl) rfl (fun _ _ => rn_neq rfl rfl) ?_
        refine WA_take 2 (by kernel_rfl) rfl (fun _ _ => rn_move) ?_
        refine WA_fp 54 rfl ((by decide)) ?_
        refine WA_take 3 (by kernel_rfl) rfl (fun _ _ => rn_move) ?_
        refine WA_take 4 (by kernel_rfl) rfl (fun _ _ => rn_lenSl (e := 48) (sz := 128) (by kernel_rfl) rfl rfl) ?_
        refine WA_take 5 (by kernel_rfl) rfl (fun _ _ => rn_eql rfl rfl) ?_
        refine WA_take 6 (by kernel_rfl) rfl (fun _ _ => rn_pick_f rfl) ?_
        refine WA_take 7 (by kernel_rfl) rfl (fun _ _ => rn_move) ?_
        refine WA_fp 59 rfl ((by omega)) ?_
        refine WA_take 8 (by kernel_rfl) rfl (fun _ _ => rn_move) ?_
        refine WA_take 9 (by kernel_rfl) rfl (fun _ _ => rn_indexSl (e := 48) (sz := 128) (by kernel_rfl) rfl rfl (0) rfl (by omega)) ?_
        refine WA_take 10 (by kernel_rfl) rfl (fun w' hS' => rn_load rfl (Ld_sec (hsj.below (hBj_d904.kpd hS' (by first | (simp; done) | (simp; omega))) (Nat.le_refl _)) (j := 0) (by omega))) ?_
        refine WA_take 12 (by kernel_rfl) rfl (fun w' hS' => rn_load rfl (Ld.rowA (k := 2) (hr8_d904.kpd hS' (by first | (simp; done) | (simp; omega))) (by kernel_rfl) (by kernel_rfl) rfl)) ?_
        refine WA_one 11 (by kernel_rfl) ?_
        refine WO_ent rfl rfl (rn_call (by kernel_rfl) rfl) (tag21r (secAt L 0) hsl0 w904) ?_
        rintro _ w63 ⟨rfl, hb63⟩
        have hS905 := hS904.add0 hb63
        refine ⟨hS905, ?_⟩
        replace hr8 := hr8.new hb63
        replace hB := hB.acc hb63
        replace hBj := hBj.acc hb63
        replace hBk := hBk.acc hb63
        refine WA_take 13 (by kernel_rfl) rfl (fun _ _ => rn_neqP (k0 := .u64) (k1 := .i64) (by kernel_rfl) rfl rfl) ?_
        refine WA_take 14 (by kernel_rfl) rfl (fun _ _ => rn_pick_f rfl) ?_
        refine WA_take 15 (by kernel_rfl) rfl (fun _ _ => rn_move) ?_
        refine WA_fb 67 rfl ((by rw [htg.1, htg.2]; simp)) ?_
        refine WA_take 16 (by kernel_rfl) rfl (fun w' hS' => rn_load rfl (Ld.rowA (k := 2) (hr8_d904.kpd hS' (by first | (simp; done) | (simp; omega))) (by kernel_rfl) (by kernel_rfl) rfl)) ?_
        refine WA_take 17 (by kernel_rfl) rfl (fun _ _ => rn_move) ?_
        refine WA_take 18 (by kernel_rfl) rfl (fun _ _ => rn_move) ?_
        refine WA_take 19 (by kernel_rfl) rfl (fun _ _ => rn_indexSl (e := 40) (sz := 3) (by kernel_rfl) rfl rfl (j) (by omega) (by omega)) ?_
        refine WA_take 20 (by kernel_rfl) rfl (fun _ _ => rn_fieldAddr (off := 0) (by kernel_rfl) rfl) ?_
        refine WA_take 21 (by kernel_rfl) rfl (fun w' hS' => rn_load rfl ((h.below (hB_d904.kpd hS' (by first | (simp; done) | (simp; omega)))).ldT hx)) ?_
        refine WA_take 22 (by kernel_rfl) rfl (fun _ _ => rn_neqP (k0 := .u64) (k1 := .i64) (by kernel_rfl) rfl rfl) ?_
        refine WA_take 23 (by kernel_rfl) rfl (fun _ _ => rn_pick_f rfl) ?_
        refine WA_take 24 (by kernel_rfl) rfl (fun _ _ => rn_move) ?_
        refine WA_fb 76 rfl ((by simp)) ?_
        refine WA_take 25 (by kernel_rfl) rfl (fun _ _ => rn_move) ?_
        refine WA_take 26 (by kernel_rfl) rfl (fun w' hS' => rn_str (e := 5) (l := l) (by kernel_rfl) (by kernel_rfl) (by kernel_rfl) rfl (hsp.below (hBk_d904.kpd hS' (by first | (simp; done) | (simp; omega))) (Nat.le_refl _))) ?_
        refine WA_take 27 (by kernel_rfl) rfl (fun _ _ => rn_move) ?_
        refine WA_take 28 (by kernel_rfl) rfl (fun _ _ => rn_move) ?_
        refine WA_take 29 (by kernel_rfl) rfl (fun _ _ => rn_indexSl (e := 40) (sz := 3) (by kernel_rfl) rfl rfl (j) (by omega) (by omega)) ?_
        refine WA_take 30 (by kernel_rfl) rfl (fun _ _ => rn_fieldAddr (off := 2) (by kernel_rfl) rfl) ?_
        refine WA_take 31 (by kernel_rfl) rfl (fun w' hS' => rn_load rfl (hld _ (hB_d904.kpd hS' (by first | (simp; done) | (simp; omega))))) ?_
        refine WA_take 32 (by kernel_rfl) rfl (fun w' hS' => rn_str (e := 5) (l := l) (by kernel_rfl) (by kernel_rfl) (by kernel_rfl) rfl (hq.below (hB_d904.kpd hS' (by first | (simp; done) | (simp; omega))) (Nat.le_refl _))) ?_
        refine WA_take 33 (by kernel_rfl) rfl (fun _ _ => rn_neqS rfl rfl) ?_
        refine WA_take 34 (by kernel_rfl) rfl (fun _ _ => rn_pick_f rfl) ?_
        refine WA_take 35 (by kernel_rfl) rfl (fun _ _ => rn_move) ?_
        refine WA_fb 87 rfl ((by simp)) ?_
        refine WA_take 36 (by kernel_rfl) rfl (fun _ _ => rn_move) ?_
        refine WA_take 37 (by kernel_rfl) rfl (fun _ _ => rn_move) ?_
        refine WA_take 38 (by kernel_rfl) rfl (fun _ _ => rn_lenSl (e := 48) (sz := 128) (by kernel_rfl) rfl rfl) ?_
        refine WA_take 39 (by kernel_rfl) rfl (fun _ _ => rn_gtr rfl rfl) ?_
        refine WA_take 40 (by kernel_rfl) rfl (fun _ _ => rn_pick_f rfl) ?_
        refine WA_done (by kernel_rfl) ?_
        refine thenN ?_
        refine W_fp rfl ((by omega)) ?_
        refine W_skip ?_
        refine thenN ?_
        refine W_region ?_
        refine WR_val rfl (rn_move) ?_
        refine WR_val rfl (rn_move) ?_
        refine WR_val rfl (rn_sliceSl (e := 48) (sz := 128) (needN l.length) (M) (cj) (by kernel_rfl) rfl ⟨_, _, rfl, by omega⟩ rfl rfl (by simp) (by omega) (by omega) (by omega)) ?_
        refine WR_val rfl (rn_assign) ?_
        refine WR_nil ?_
        refine blockN ?_
        refine thenN ?_
        refine W_region ?_
        refine WR_val rfl (rn_move) ?_
        refine WR_val rfl (rn_add rfl rfl (Coup.w64 (by omega))) ?_
        refine WR_val rfl (rn_assign) ?_
        refine WR_nil ?_
        have hst := SlAt_tail (hsj.below hBj (Nat.le_refl _)) (n := needN l.length) (by omega) hcj
        have e : allN (R.drop (j + 1)) = M - needN l.length := by omega
        rw [htail, ← e] at hst
        have hlen : allN (R.drop (j + 1)) ≤ cj - needN l.length := by omega
        have hj1 : j + 1 ≤ i := by omega
        have hj2 : i - (j + 1) < i - j := by omega
        clear htg htail hT hdl hdn hdr hN hLl hsl0 hpos hrl hmb hm hx hq hld hG hfew
        refine loopN ⟨(j + 1, (if cj = needN l.length then some (⟨gj, oj, none⟩ : Addr) else Option.map (fun x : Addr => x.add (needN l.length * 128)) (some (⟨gj, oj, none⟩ : Addr))), cj - needN l.length), ?_, ?_, ?_, ?_, ?_, ?_⟩
        · exact hj2
        · refine ⟨rfl, ?_, rfl, rfl⟩
          simp only [e]
          rfl
        · exact hj1
        · exact hst
        · exact hlen
        · exact hB
      · obtain rfl : j = i := by omega
        rw [List.drop_of_length_le (by omega)] at *
        refine W_seq ?_
        refine W_seq ?_
        refine W_region ?_
        refine WR_val rfl (rn_move) ?_
        refine WR_val rfl (rn_move) ?_
        refine WR_val rfl (rn_lenSl (e := 40) (sz := 3) (by kernel_rfl) rfl rfl) ?_
        refine WR_val rfl (rn_lss rfl rfl) ?_
        refine WR_nil ?_
        refine thenN ?_
        refine W_fp rfl ((by omega)) ?_
        refine W_exit ?_
        refine thenX ?_
        refine loopX ?_
        refine blockX ?_
        refine thenN ?_
        refine W_seq ?_
        refine W_region ?_
        refine WR_val rfl (rn_move) ?_
        refine WR_val rfl (rn_lenSl (e := 48) (sz := 128) (by kernel_rfl) rfl rfl) ?_
        refine WR_val rfl (rn_eql rfl rfl) ?_
        refine WR_val rfl (rn_move) ?_
        refine WR_tp 99 rfl ((by decide)) ?_
        refine WR_yes rfl ?_
        refine WR_ent rfl (rn_call (by kernel_rfl) rfl) (knownC wz) ?_
        rintro _ w100 ⟨rfl, hb100⟩
        replace hB := hB.acc hb100
        replace hBj := hBj.acc hb100
        refine WR_val rfl (rn_pick_t rfl) ?_
        refine WR_val rfl (rn_assign) ?_
        refine WR_nil ?_
        refine thenN ?_
        refine W_ret ?_
        refine ret_ret [_] ⟨rfl, trivial⟩ ?_
        exact ⟨rfl, hB⟩
end Go.Proofs.Ytnlocpldghpfcaa
