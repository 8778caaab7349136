/- The reference's pages: without a record. -/
import Derived.Test.YtjdcopfnhkfimaaPageP
namespace Go.Proofs.Ytjdcopfnhkfimaa
open Go Go.RowKit Coup

set_option maxHeartbeats 2000000 in
theorem rwithout32 (V : View) (p : Option Addr) (c i : Nat) (fl : List Value) (w : World) (o : List Nat) (h : SlAt w p V.slots.length 2 fl) (hs : RsAt w o fl V.slots) (hi : i < V.slots.length) (hn : V.slots.length ≤ 1000) :
    Calls Try.prog 32 [viewV V p V.slots.length c, .int .i64 (i : Int)].toArray w
      (Ret fun v w' => ∃ p' c' fl', v = viewV (wtV V i) p' (wtV V i).slots.length c' ∧ (∀ b off, p' = some ⟨b, off, none⟩ → w.heap.size ≤ b) ∧ SlAt w' p' (wtV V i).slots.length 2 fl' ∧ RsAt w' o fl' (wtV V i).slots ∧ Below w.heap.size w w') := by
  have hB := Below.refl w.heap.size w
  have hml : maxLen = 9223372036854775807 := by decide
  have hone := hs.one
  obtain ⟨T, hT⟩ : ∃ T, trimS (V.slots.set i none) = T := ⟨_, rfl⟩
  have hT2 : (wtV V i).slots = T := hT
  rw [hT2]
  obtain ⟨S, hS⟩ : ∃ S, V.slots = S := ⟨_, rfl⟩
  obtain ⟨n, hn1⟩ : ∃ n, S.length = n := ⟨_, rfl⟩
  rw [hS] at h hs hi hn hT ⊢
  rw [hn1] at h hi hn ⊢
  unfold viewV
  refine calls_W (fn := Try.f32) (rs := [.cell 4 57]) (n := 34) Try.func32 rfl rfl Try.ntmps32 (by kernel_rfl) rfl ?_
  refine W_seq ?_
  refine W_region ?_
  refine WR_mk rfl (mk_box ([_, _, _]) rfl (fun g2 w2 hg2 hr2 hb2 => ?_))
  have ge_hB_g2 := Nat.le_trans hB.size hg2
  replace hB := hB.acc hb2
  refine WR_mk rfl (mk_alloc ([Value.int .i64 0, Value.int .i64 0, Value.slice none 0 0]) (by kernel_rfl) (fun g4 w4 hg4 hr4 hb4 => ?_))
  have ge_hB_g4 := Nat.le_trans hB.size hg4
  have lt_g2_g4 : g2 < g4 := Nat.lt_of_lt_of_le hr2.lt hg4
  replace hr2 := hr2.new hb4
  replace hB := hB.acc hb4
  refine WR_nil ?_
  refine thenN ?_
  refine W_seq ?_
  refine W_region ?_
  refine WR_val rfl (rn_fieldAddr (off := 2) (by kernel_rfl) rfl) ?_
  refine WR_val rfl (rn_load rfl (Ld.row1 hr2 (by kernel_rfl) rfl)) ?_
  have hobt : ∃ B, w4.heap.size = B := ⟨_, rfl⟩
  obtain ⟨B, hBd⟩ := hobt
  have g2B : g2 < B := by rw [← hBd]; exact hr2.lt
  have g4B : g4 < B := by rw [← hBd]; exact hr4.lt
  have hwB : w.heap.size ≤ B := by rw [← hBd]; exact hB.size
  refine WR_mk rfl (mk_append (e := 69) (sz := 2) (bytes := 32) (z := .agg ([Value.bool false, Value.slice none 0 0]).toArray) (by kernel_rfl) rfl (by kernel_rfl) rfl (by decide) rfl (ownsAt_nil w4 w4.heap.size 69 2) rfl (h.below hB (Nat.le_refl _)) hone (by unfold maxLen; omega) (by omega) (fun _ => Nat.le_refl _) (fun v8 w8 hv8 hgr8 hfr8 => ?_))
  have hb8 := below_of_nil hgr8
  replace hr2 := hr2.new hb8
  replace hr4 := hr4.new hb8
  replace hB := hB.acc hb8
  rw [Nat.zero_add, List.nil_append, hBd] at hv8
  have hBs : B ≤ w8.heap.size := by rw [← hBd]; exact hgr8.size
  have hobt := hv8.form' (by omega)
  obtain ⟨g, o1, c8, rfl, hBg, hgl, hcc⟩ := hobt
  have hG : OwnG w8 B 69 2 g o1 n c8 fl := hv8
  have hfl := hG.len
  refine WR_val rfl (rn_assign) ?_
  refine WR_nil ?_
  refine thenN ?_
  refine W_seq ?_
  refine W_region ?_
  refine WR_val rfl (rn_move) ?_
  refine WR_val rfl (rn_move) ?_
  refine WR_val rfl (rn_zeroed [.bool false, .slice none 0 0] (by kernel_rfl)) ?_
  refine WR_val rfl (rn_indexSl (e := 69) (sz := 2) (by kernel_rfl) rfl rfl (i) (by omega) (by omega)) ?_
  refine WR_sk rfl (sk_storeO ([.bool false, .slice none 0 0]) (i * 2) hG rfl rfl (by kernel_rfl) (by first | (simp only [iv_length, List.length_cons, List.length_nil]; omega) | omega | (simp; omega)) (by simp [Value.oneCell']) (fun w901 hG ho901 => ?_))
  replace hr2 := hr2.only ho901 (by omega)
  replace hr4 := hr4.only ho901 (by omega)
  replace hB := ho901.below hB (by omega)
  refine WR_nil ?_
  refine thenN ?_
  refine W_seq ?_
  refine W_block ?_
  obtain ⟨F, hF⟩ : ∃ F, splice fl (i * 2) [.bool false, .slice none 0 0] = F := ⟨_, rfl⟩
  rw [hF] at hG
  have hFl := hG.len
  have hfin : ∀ w', Below w.heap.size w w' → RsAt w' o F (S.set i none) := fun w' hb => by
    rw [← hF]
    exact (hs.new hb).setR (i := i) (s := none) (q := none) (c := 0) (by omega) (SlAt.nil _ _ _) (fun h => by simp [bod] at h)
  obtain ⟨S2, hS2⟩ : ∃ S2, S.set i none = S2 := ⟨_, rfl⟩
  have hS2l : S2.length = n := by rw [← hS2, List.length_set, hn1]
  rw [hS2] at hfin hT
  have hrs := hfin _ hB
  have hGs := hG.sl
  refine W_loop (α := Nat) n (fun m => [(5, .slice (some ⟨g, o1, none⟩) m c8), (2, .pointer (some ⟨g2, 0, none⟩)), (4, .pointer (some ⟨g4, 0, none⟩))])
    (fun m w' => m ≤ n ∧ trimS (S2.take m) = T ∧ w901 = w') (fun m => m)
    ⟨rfl, rfl, rfl, rfl⟩ ⟨Nat.le_refl _, by rw [List.take_of_length_le (by omega)]; exact hT, rfl⟩ ?_
  rintro m f wr ⟨hm, htr, rfl⟩
  refine W_seq ?_
  refine W_seq ?_
  refine W_region ?_
  refine WR_val rfl (rn_move) ?_
  refine WR_val rfl (rn_lenSl (e := 69) (sz := 2) (by kernel_rfl) rfl rfl) ?_
  refine WR_val rfl (rn_gtr rfl rfl) ?_
  refine WR_val rfl (rn_move) ?_
  refine WR_part 16 rfl (fun hm0 => ?_) (fun hm0 => ?_)
  ·
    refine WR_yes rfl ?_
    have hobt : ∃ s, S2[m - 1]? = some s := ⟨_, List.getElem?_eq_getElem (by omega)⟩
    obtain ⟨s, hsi⟩ := hobt
    have hsp : S2.take m = S2.take (m - 1) ++ [s] := by
      conv => lhs; rw [show m = m - 1 + 1 by omega]
      rw [List.take_add_one, hsi]; rfl
    have hvv := (hrs.at_ _ s hsi).1
    refine WR_val rfl (rn_move) ?_
    refine WR_yes rfl ?_
    refine WR_val rfl (rn_move) ?_
    refine WR_yes rfl ?_
    refine WR_val rfl (rn_lenSl (e := 69) (sz := 2) (by kernel_rfl) rfl rfl) ?_
    refine WR_yes rfl ?_
    refine WR_val rfl (rn_sub rfl rfl (Coup.w64 (by omega))) ?_
    refine WR_yes rfl ?_
    refine WR_val rfl (rn_indexSl (e := 69) (sz := 2) (by kernel_rfl) rfl rfl (m - 1) (by omega) (by omega)) ?_
    refine WR_yes rfl ?_
    refine WR_val rfl (rn_fieldAddr (off := 0) (by kernel_rfl) rfl) ?_
    refine WR_yes rfl ?_
    refine WR_val rfl (rn_load rfl (Ld.sl1 (off := o1) (j := (m - 1) * 2) hGs (by kernel_rfl) hvv)) ?_
    refine WR_yes rfl ?_
    refine WR_val rfl (rn_not rfl) ?_
    refine WR_val rfl (rn_pick_t rfl) ?_
    refine WR_nil ?_
    refine thenN ?_
    refine W_ifnb rfl (fun hq0 => ?_) (fun hq0 => ?_)
    ·
      refine W_skip ?_
      refine thenN ?_
      refine W_block ?_
      refine W_region ?_
      refine WR_val rfl (rn_move) ?_
      refine WR_val rfl (rn_move) ?_
      refine WR_val rfl (rn_lenSl (e := 69) (sz := 2) (by kernel_rfl) rfl rfl) ?_
      refine WR_val rfl (rn_sub rfl rfl (Coup.w64 (by omega))) ?_
      refine WR_val rfl (rn_sliceUp (e := 69) (sz := 2) (m - 1) (by kernel_rfl) rfl ⟨_, _, rfl, by omega⟩ (by omega)) ?_
      refine WR_val rfl (rn_assign) ?_
      refine WR_nil ?_
      refine blockN ?_
      have hs0 : s = none := by cases s with | none => rfl | some r => simp at hq0
      subst hs0
      refine loopN ⟨m - 1, by omega, ⟨rfl, rfl, rfl, rfl⟩, by omega, by rw [← htr, hsp, trimS_no], rfl⟩
    ·
      obtain ⟨r1, rfl⟩ : ∃ r, s = some r := by
        cases s with
        | none => simp at hq0
        | some r => exact ⟨r, rfl⟩
      have hTm : T = S2.take m := by rw [← htr, hsp, trimS_yes]
      have hTl : T.length = m := by rw [hTm, List.length_take]; omega
      rw [hTl]
      have hGc := (ownsAt.cut hG m hm).sl
      refine W_exit ?_
      refine thenX ?_
      refine loopX ?_
      refine blockX ?_
      refine thenN ?_
      refine W_seq ?_
      refine W_region ?_
      refine WR_val rfl (rn_move) ?_
      refine WR_val rfl (rn_fieldAddr (off := 2) (by kernel_rfl) rfl) ?_
      refine WR_sk rfl (sk_store1 rfl rfl rfl rfl hr2 (by kernel_rfl) (by first | (simp only [List.length_replicate]; omega) | (simp only [iv_length]; omega) | (simp only [bv_length, List.length_set]; omega) | simp) (fun w902 hr2 ho902 => ?_))
      replace hr4 := hr4.only ho902 (Nat.ne_of_gt lt_g2_g4)
      replace hGc := hGc.only ho902 (by omega)
      replace hB := ho902.below hB ge_hB_g2
      refine WR_nil ?_
      refine thenN ?_
      refine W_seq ?_
      refine W_region ?_
      refine WR_val rfl (rn_load rfl (Ld.rowA (k := 3) hr2 (by kernel_rfl) (by kernel_rfl) (by first | (simp; done) | (simp [bv_length, *]; done) | assumption))) ?_
      refine WR_sk rfl (sk_storeA 3 ([.int .i64 (V.kind : Int), .int .i64 (V.next : Int), .slice (some ⟨g, o1, none⟩) m c8]) rfl rfl hr4 (by kernel_rfl) (by first | assumption | (simp; done) | (simp [bv_length, *]; done)) (by first | assumption | (simp; done) | (simp [bv_length, *]; done) | rfl) (by first | exact bv_one _ | assumption | (simp [Value.oneCell']; done)) (fun w903 hr4 ho903 => ?_))
      replace hr2 := hr2.only ho903 (Nat.ne_of_lt lt_g2_g4)
      replace hGc := hGc.only ho903 (by omega)
      replace hB := ho903.below hB ge_hB_g4
      refine WR_nil ?_
      refine thenN ?_
      refine W_ret ?_
      refine ret_ret [_] ⟨⟨_, rfl, Ld.rowA (k := 3) hr4 (by kernel_rfl) (by kernel_rfl) (by first | (simp; done) | (simp [bv_length, *]; done) | assumption)⟩, trivial⟩ ?_
      have hrc := (hfin _ hB).cutR (m := m) (by omega)
      rw [← hTm] at hrc
      exact ⟨_, c8, _, rfl, fun b off e => by injection e with e; injection e with e; omega, hGc, hrc, hB⟩
  ·
    have hm1 : m = 0 := by omega
    have hTm : T = S2.take m := by rw [← htr, hm1]; rfl
    have hTl : T.length = m := by rw [hTm, List.length_take]; omega
    rw [hTl]
    have hGc := (ownsAt.cut hG m hm).sl
    refine WR_no rfl rfl ?_
    refine WR_no rfl rfl ?_
    refine WR_no rfl rfl ?_
    refine WR_no rfl rfl ?_
    refine WR_no rfl rfl ?_
    refine WR_no rfl rfl ?_
    refine WR_no rfl rfl ?_
    refine WR_no rfl rfl ?_
    refine WR_val rfl (rn_pick_f rfl) ?_
    refine WR_nil ?_
    refine thenN ?_
    refine W_f rfl ?_
    refine W_exit ?_
    refine thenX ?_
    refine loopX ?_
    refine blockX ?_
    refine thenN ?_
    refine W_seq ?_
    refine W_region ?_
    refine WR_val rfl (rn_move) ?_
    refine WR_val rfl (rn_fieldAddr (off := 2) (by kernel_rfl) rfl) ?_
    refine WR_sk rfl (sk_store1 rfl rfl rfl rfl hr2 (by kernel_rfl) (by first | (simp only [List.length_replicate]; omega) | (simp only [iv_length]; omega) | (simp only [bv_length, List.length_set]; omega) | simp) (fun w904 hr2 ho904 => ?_))
    replace hr4 := hr4.only ho904 (Nat.ne_of_gt lt_g2_g4)
    replace hGc := hGc.only ho904 (by omega)
    replace hB := ho904.below hB ge_hB_g2
    refine WR_nil ?_
    refine thenN ?_
    refine W_seq ?_
    refine W_region ?_
    refine WR_val rfl (rn_load rfl (Ld.rowA (k := 3) hr2 (by kernel_rfl) (by kernel_rfl) (by first | (simp; done) | (simp [bv_length, *]; done) | assumption))) ?_
    refine WR_sk rfl (sk_storeA 3 ([.int .i64 (V.kind : Int), .int .i64 (V.next : Int), .slice (some ⟨g, o1, none⟩) m c8]) rfl rfl hr4 (by kernel_rfl) (by first | assumption | (simp; done) | (simp [bv_length, *]; done)) (by first | assumption | (simp; done) | (simp [bv_length, *]; done) | rfl) (by first | exact bv_one _ | assumption | (simp [Value.oneCell']; done)) (fun w905 hr4 ho905 => ?_))
    replace hr2 := hr2.only ho905 (Nat.ne_of_lt lt_g2_g4)
    replace hGc := hGc.only ho905 (by omega)
    replace hB := ho905.below hB ge_hB_g4
    refine WR_nil ?_
    refine thenN ?_
    refine W_ret ?_
    refine ret_ret [_] ⟨⟨_, rfl, Ld.rowA (k := 3) hr4 (by kernel_rfl) (by kernel_rfl) (by first | (simp; done) | (simp [bv_length, *]; done) | assumption)⟩, trivial⟩ ?_
    have hrc := (hfin _ hB).cutR (m := m) (by omega)
    rw [← hTm] at hrc
    exact ⟨_, c8, _, rfl, fun b off e => by injection e with e; injection e with e; omega, hGc, hrc, hB⟩
end Go.Proofs.Ytjdcopfnhkfimaa
