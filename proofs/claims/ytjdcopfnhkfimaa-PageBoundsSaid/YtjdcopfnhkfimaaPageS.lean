/- The law's own act. -/
import Derived.Test.YtjdcopfnhkfimaaPageR
namespace Go.Proofs.Ytjdcopfnhkfimaa
open Go Go.RowKit Coup

def actC (a : ActT) (pa : Option Addr) (ca : Nat) : List Value := [.int .i64 a.kind, .int .i64 a.slot, .int .i64 a.next, .slice pa a.b.length ca]
set_option maxHeartbeats 4000000 in
theorem do16 (V : View) (a : ActT) (pa : Option Addr) (ca : Nat) (w : World) (hV : Good V) (hb : a.b.length ≤ 700) (ha : SlAt w pa a.b.length 1 (bv a.b)) :
    Calls Try.prog 16 [.agg (bv (bytesV V)).toArray, .agg (actC a pa ca).toArray].toArray w (Ret fun v w' => v = .tuple #[.agg (bv (bytesV (actV V a))).toArray, .bool true] ∧ Below w.heap.size w w') := by
  have hB := Below.refl w.heap.size w
  have hml : maxLen = 9223372036854775807 := by decide
  have hz := hV.size
  have hz2 := hz
  unfold sizeV at hz2
  have hOf := rof27 V
  have hbl := bytes_len hV
  obtain ⟨Q, hQ⟩ : ∃ Q, bytesV V = Q := ⟨_, rfl⟩
  rw [hQ] at hOf hbl ⊢
  have hLay := fun pr cr w' h => lay8 V pr cr a.b w' hV h
  have hPut := fun pr cr w' h => put30 V a.slot pr cr a.b w' hV h
  have hTake := fun w' => take11 V a.slot w' hV
  have hLink := fun w' => link9 V a.next w' hV
  rw [hQ] at hLay hPut hTake hLink
  obtain ⟨Z, hzz, hzb, hzl⟩ := zeroQ
  refine calls_W (fn := Try.f16) (rs := [.cell 4 23, .tmp 5]) (n := 165) Try.func16 rfl rfl Try.ntmps16 (by kernel_rfl) rfl ?_
  refine W_seq ?_
  refine W_region ?_
  refine WR_mk rfl (mk_box ((bv Q)) rfl (fun g2 w2 hg2 hr2 hb2 => ?_))
  have ge_hB_g2 := Nat.le_trans hB.size hg2
  replace hB := hB.acc hb2
  refine WR_mk rfl (mk_box (actC a pa ca) rfl (fun g3 w3 hg3 hr3 hb3 => ?_))
  have ge_hB_g3 := Nat.le_trans hB.size hg3
  have lt_g2_g3 : g2 < g3 := Nat.lt_of_lt_of_le hr2.lt hg3
  replace hr2 := hr2.new hb3
  replace hB := hB.acc hb3
  refine WR_mk rfl (mk_alloc (List.replicate 512 (Value.int .u8 0)) (by kernel_rfl) (fun g4 w4 hg4 hr4 hb4 => ?_))
  have ge_hB_g4 := Nat.le_trans hB.size hg4
  have lt_g2_g4 : g2 < g4 := Nat.lt_of_lt_of_le hr2.lt hg4
  have lt_g3_g4 : g3 < g4 := Nat.lt_of_lt_of_le hr3.lt hg4
  replace hr2 := hr2.new hb4
  replace hr3 := hr3.new hb4
  replace hB := hB.acc hb4
  rw [hzb] at hr4
  refine WR_val rfl (rn_assign) ?_
  refine WR_nil ?_
  refine thenN ?_
  refine W_seq ?_
  refine W_region ?_
  refine WR_val rfl (rn_load rfl (Ld.rowA (k := 512) hr2 (by kernel_rfl) (by kernel_rfl) (by first | (simp; done) | (simp [bv_length, *]; done) | assumption))) ?_
  refine WR_ent rfl (rn_call (by kernel_rfl) rfl) (hOf w4 hV) ?_
  rintro _ w16 ⟨p0, c0, fl0, rfl, hx0, hs0, hb16⟩
  replace hr2 := hr2.new hb16
  replace hr3 := hr3.new hb16
  replace hr4 := hr4.new hb16
  replace hB := hB.acc hb16
  have hBo := Below.refl w16.heap.size w16
  have hobt : ∃ Wo, w16 = Wo := ⟨_, rfl⟩
  obtain ⟨Wo, hWo⟩ := hobt
  have hwo := hB.size
  have l2 := hr2.lt
  have l3 := hr3.lt
  have l4 := hr4.lt
  refine WR_val rfl (rn_move) ?_
  refine WR_val rfl (rn_extract rfl rfl) ?_
  refine WR_val rfl (rn_extract rfl rfl) ?_
  refine WR_mk rfl (mk_alloc ([Value.int .i64 0, Value.int .i64 0, Value.slice none 0 0]) (by kernel_rfl) (fun g6 w6 hg6 hr6 hb6 => ?_))
  have ge_hB_g6 := Nat.le_trans hB.size hg6
  have ge_hBo_g6 := Nat.le_trans hBo.size hg6
  have lt_g2_g6 : g2 < g6 := Nat.lt_of_lt_of_le hr2.lt hg6
  have lt_g3_g6 : g3 < g6 := Nat.lt_of_lt_of_le hr3.lt hg6
  have lt_g4_g6 : g4 < g6 := Nat.lt_of_lt_of_le hr4.lt hg6
  replace hr2 := hr2.new hb6
  replace hr3 := hr3.new hb6
  replace hr4 := hr4.new hb6
  replace hB := hB.acc hb6
  replace hBo := hBo.acc hb6
  refine WR_sk rfl (sk_storeA 3 (vw V p0 c0) rfl rfl hr6 (by kernel_rfl) (by first | assumption | (simp; done) | (simp [bv_length, *]; done)) (by first | assumption | (simp; done) | (simp [bv_length, *]; done) | rfl) (by first | exact bv_one _ | assumption | (simp [Value.oneCell']; done)) (fun w901 hr6 ho901 => ?_))
  replace hr2 := hr2.only ho901 (Nat.ne_of_lt lt_g2_g6)
  replace hr3 := hr3.only ho901 (Nat.ne_of_lt lt_g3_g6)
  replace hr4 := hr4.only ho901 (Nat.ne_of_lt lt_g4_g6)
  replace hB := ho901.below hB ge_hB_g6
  replace hBo := ho901.below hBo ge_hBo_g6
  refine WR_val rfl (rn_assign) ?_
  refine WR_nil ?_
  refine thenN ?_
  refine W_seq ?_
  refine W_region ?_
  refine WR_mk rfl (mk_alloc (List.replicate 512 (Value.int .u8 0)) (by kernel_rfl) (fun g8 w8 hg8 hr8 hb8 => ?_))
  have ge_hB_g8 := Nat.le_trans hB.size hg8
  have ge_hBo_g8 := Nat.le_trans hBo.size hg8
  have lt_g2_g8 : g2 < g8 := Nat.lt_of_lt_of_le hr2.lt hg8
  have lt_g3_g8 : g3 < g8 := Nat.lt_of_lt_of_le hr3.lt hg8
  have lt_g4_g8 : g4 < g8 := Nat.lt_of_lt_of_le hr4.lt hg8
  have lt_g6_g8 : g6 < g8 := Nat.lt_of_lt_of_le hr6.lt hg8
  replace hr2 := hr2.new hb8
  replace hr3 := hr3.new hb8
  replace hr4 := hr4.new hb8
  replace hr6 := hr6.new hb8
  replace hB := hB.acc hb8
  replace hBo := hBo.acc hb8
  rw [hzb] at hr8
  refine WR_nil ?_
  refine thenN ?_
  refine W_seq ?_
  refine W_region ?_
  refine WR_val rfl (rn_assign) ?_
  refine WR_val rfl (rn_assign) ?_
  refine WR_nil ?_
  refine thenN ?_
  refine W_seq ?_
  refine W_region ?_
  refine WR_val rfl (rn_load rfl (Ld.rowA (k := 3) hr6 (by kernel_rfl) (by kernel_rfl) (by first | (simp; done) | (simp [bv_length, *]; done) | assumption))) ?_
  refine WR_mk rfl (mk_alloc ([Value.int .i64 0, Value.int .i64 0, Value.slice none 0 0]) (by kernel_rfl) (fun g11 w11 hg11 hr11 hb11 => ?_))
  have ge_hB_g11 := Nat.le_trans hB.size hg11
  have ge_hBo_g11 := Nat.le_trans hBo.size hg11
  have lt_g2_g11 : g2 < g11 := Nat.lt_of_lt_of_le hr2.lt hg11
  have lt_g3_g11 : g3 < g11 := Nat.lt_of_lt_of_le hr3.lt hg11
  have lt_g4_g11 : g4 < g11 := Nat.lt_of_lt_of_le hr4.lt hg11
  have lt_g6_g11 : g6 < g11 := Nat.lt_of_lt_of_le hr6.lt hg11
  have lt_g8_g11 : g8 < g11 := Nat.lt_of_lt_of_le hr8.lt hg11
  replace hr2 := hr2.new hb11
  replace hr3 := hr3.new hb11
  replace hr4 := hr4.new hb11
  replace hr6 := hr6.new hb11
  replace hr8 := hr8.new hb11
  replace hB := hB.acc hb11
  replace hBo := hBo.acc hb11
  refine WR_sk rfl (sk_storeA 3 (vw V p0 c0) rfl rfl hr11 (by kernel_rfl) (by first | assumption | (simp; done) | (simp [bv_length, *]; done)) (by first | assumption | (simp; done) | (simp [bv_length, *]; done) | rfl) (by first | exact bv_one _ | assumption | (simp [Value.oneCell']; done)) (fun w902 hr11 ho902 => ?_))
  replace hr2 := hr2.only ho902 (Nat.ne_of_lt lt_g2_g11)
  replace hr3 := hr3.only ho902 (Nat.ne_of_lt lt_g3_g11)
  replace hr4 := hr4.only ho902 (Nat.ne_of_lt lt_g4_g11)
  replace hr6 := hr6.only ho902 (Nat.ne_of_lt lt_g6_g11)
  replace hr8 := hr8.only ho902 (Nat.ne_of_lt lt_g8_g11)
  replace hB := ho902.below hB ge_hB_g11
  replace hBo := ho902.below hBo ge_hBo_g11
  refine WR_val rfl (rn_assign) ?_
  refine WR_nil ?_
  refine thenN ?_
  refine W_seq ?_
  refine W_region ?_
  refine WR_val rfl (rn_fieldAddr (off := 3) (by kernel_rfl) rfl) ?_
  refine WR_val rfl (rn_load rfl (Ld.row1 hr3 (by kernel_rfl) rfl)) ?_
  have hobt : ∃ B, w902.heap.size = B := ⟨_, rfl⟩
  obtain ⟨B, hBd⟩ := hobt
  have l2B := hr2.lt
  have l3B := hr3.lt
  have l4B := hr4.lt
  have l6B := hr6.lt
  have l8B := hr8.lt
  have l11B := hr11.lt
  have lwB := hB.size
  have loB := hBo.size
  refine WR_mk rfl (mk_append (e := 5) (sz := 1) (bytes := 1) (z := Value.int .u8 0) (by kernel_rfl) rfl (by kernel_rfl) rfl (by decide) rfl (ownsAt_nil w902 w902.heap.size 5 1) rfl (ha.below hB (Nat.le_refl _)) (bv_one _) (by unfold maxLen; omega) (by omega) (fun _ => Nat.le_refl _) (fun v22 w22 hv22 hgr22 hfr22 => ?_))
  have hb22 := below_of_nil hgr22
  replace hr2 := hr2.new hb22
  replace hr3 := hr3.new hb22
  replace hr4 := hr4.new hb22
  replace hr6 := hr6.new hb22
  replace hr8 := hr8.new hb22
  replace hr11 := hr11.new hb22
  replace hB := hB.acc hb22
  replace hBo := hBo.acc hb22
  rw [Nat.zero_add, List.nil_append, hBd] at hv22
  have hBc := hgr22.size
  have hform := hv22.form
  obtain ⟨p22, c22, rfl⟩ := hform
  refine WR_mk rfl (mk_one (e := 5) (.int .u8 7) ([.int .u8 7]) ([Value.int .u8 0]) 1 (by kernel_rfl) (by kernel_rfl) rfl rfl rfl ⟨by decide, by decide⟩ (fun g23 w23 hg23 hr23 hb23 => ?_))
  have ge_hB_g23 := Nat.le_trans hB.size hg23
  have ge_hBo_g23 := Nat.le_trans hBo.size hg23
  have lt_g2_g23 : g2 < g23 := Nat.lt_of_lt_of_le hr2.lt hg23
  have lt_g3_g23 : g3 < g23 := Nat.lt_of_lt_of_le hr3.lt hg23
  have lt_g4_g23 : g4 < g23 := Nat.lt_of_lt_of_le hr4.lt hg23
  have lt_g6_g23 : g6 < g23 := Nat.lt_of_lt_of_le hr6.lt hg23
  have lt_g8_g23 : g8 < g23 := Nat.lt_of_lt_of_le hr8.lt hg23
  have lt_g11_g23 : g11 < g23 := Nat.lt_of_lt_of_le hr11.lt hg23
  replace hr2 := hr2.new hb23
  replace hr3 := hr3.new hb23
  replace hr4 := hr4.new hb23
  replace hr6 := hr6.new hb23
  replace hr8 := hr8.new hb23
  replace hr11 := hr11.new hb23
  replace hv22 := hv22.new hb23
  replace hB := hB.acc hb23
  replace hBo := hBo.acc hb23
  have hs23 := hr23.slA (m := 1) (sz := 1) rfl (by omega)
  have hBc2 := hb23.size
  have sz_hB_24 := hB.size
  have sz_hBo_24 := hBo.size
  refine WR_mk rfl (mk_append (e := 5) (sz := 1) (bytes := 1) (z := Value.int .u8 0) (by kernel_rfl) rfl (by kernel_rfl) rfl (by decide) rfl hv22 rfl hs23 (by simp [Value.oneCell']) (by unfold maxLen; omega) (by omega) (fun hm0 => by omega) (fun v24 w24 hv24 hgr24 hfr24 => ?_))
  replace hr2 := hr2.own hv22 hgr24 (by omega)
  replace hr3 := hr3.own hv22 hgr24 (by omega)
  replace hr4 := hr4.own hv22 hgr24 (by omega)
  replace hr6 := hr6.own hv22 hgr24 (by omega)
  replace hr8 := hr8.own hv22 hgr24 (by omega)
  replace hr11 := hr11.own hv22 hgr24 (by omega)
  replace hB := hB.own hv22 hgr24 (by omega)
  replace hBo := hBo.own hv22 hgr24 (by omega)
  have hobt := hv24.form' (by omega)
  obtain ⟨g, o1, c24, rfl, hBg, hgl, hcc⟩ := hobt
  have hcut := (ownsAt.cut hv24 a.b.length (by omega)).sl
  have hx := hv24.sl
  rw [show [Value.int IntKind.u8 7] = bv [7] from rfl, ← bv_append] at hx hcut
  rw [Nat.mul_one, ← bv_take, List.take_left] at hcut
  have hs1 := hs0.avoid (o' := [g8, g11]) (fun g hm => Or.inr (by simp at hm; omega))
  have hro : 0 < a.b.length → ∀ b off, pa = some ⟨b, off, none⟩ → b ∉ [g8, g11] := fun h0 b off e hm => by
    obtain ⟨g', o', e', hl'⟩ := ha.some (by omega)
    rw [e'] at e
    cases e
    simp at hm
    omega
  refine WR_val rfl (rn_assign) ?_
  refine WR_nil ?_
  refine thenN ?_
  refine W_cut (fun q : Nat × Nat × Int => [(9, .int .i64 (q.1 : Nat)), (12, .int .i64 (q.2.1 : Nat)), (10, .int .i64 q.2.2), (7, .bool true), (13, .slice (some ⟨g, o1, none⟩) (a.b.length + 1) c24), (2, .pointer (some ⟨g2, 0, none⟩)), (3, .pointer (some ⟨g3, 0, none⟩)), (4, .pointer (some ⟨g4, 0, none⟩)), (6, .pointer (some ⟨g6, 0, none⟩)), (8, .pointer (some ⟨g8, 0, none⟩)), (11, .pointer (some ⟨g11, 0, none⟩))]) (fun q w' => ∃ P X k p c fl, Post V a q.1 q.2.1 q.2.2 P X k ∧ row w' g2 (bv Q) 23 ∧ row w' g3 (actC a pa ca) 39 ∧ row w' g4 (bv Z) 23 ∧ row w' g6 (vw V p0 c0) 57 ∧ row w' g8 (bv P) 23 ∧ row w' g11 [.int .i64 (V.kind : Int), .int .i64 k, .slice p X.slots.length c] 57 ∧ SlAt w' p X.slots.length 2 fl ∧ RsAt w' [g8, g11] fl X.slots ∧ SlAt w' (some ⟨g, o1, none⟩) (a.b.length + 1) 1 (bv (a.b ++ [7])) ∧ Below Wo.heap.size Wo w' ∧ Below w.heap.size w w') ?_ ?_
  ·
    refine W_seq ?_
    refine W_region ?_
    refine WR_val rfl (rn_fieldAddr (off := 0) (by kernel_rfl) rfl) ?_
    refine WR_val rfl (rn_load rfl (Ld.row1 hr3 (by kernel_rfl) rfl)) ?_
    refine WR_nil ?_
    refine thenN ?_
    refine W_block ?_
    refine W_seq ?_
    refine W_region ?_
    refine WR_val rfl (rn_eql rfl rfl) ?_
    refine WR_val rfl (rn_assign) ?_
    refine WR_nil ?_
    refine thenN ?_
    refine W_ifp rfl (fun hk1 => ?_) (fun hk1 => ?_)
    ·
      refine W_seq ?_
      have hps := post1 hV hk1 hb
      have hpl := hps.len
      have hobt : ∃ P, layP V a.b = P := ⟨_, rfl⟩
      obtain ⟨P, hP⟩ := hobt
      have hL2 := hLay (some ⟨g, o1, none⟩) c24
      rw [hP] at hps hpl hL2
      refine W_draw' [g8] (by kernel_rfl) ?_
      intro w903 hb903 hS903
      replace hr2 := hr2.new hb903
      replace hr3 := hr3.new hb903
      replace hr4 := hr4.new hb903
      replace hr6 := hr6.new hb903
      replace hr8 := hr8.new hb903
      replace hr11 := hr11.new hb903
      replace hx := hx.new hb903
      replace hcut := hcut.new hb903
      replace hB := hB.acc hb903
      replace hBo := hBo.acc hb903
      have hr2_d903 := hr2
      have hr3_d903 := hr3
      have hr4_d903 := hr4
      have hr6_d903 := hr6
      have hr8_d903 := hr8
      have hr11_d903 := hr11
      have hx_d903 := hx
      have hcut_d903 := hcut
      have hB_d903 := hB
      have hBo_d903 := hBo
      refine WA_take 0 (by kernel_rfl) rfl (fun w' hS' => rn_load rfl (Ld.rowA (k := 512) (hr2_d903.kpd hS' (by first | (simp; done) | (simp; omega) | (simp [*]; done))) (by kernel_rfl) (by kernel_rfl) (by first | (simp; done) | (simp [bv_length, *]; done) | assumption))) ?_
      refine WA_take 1 (by kernel_rfl) rfl (fun _ _ => rn_move) ?_
      refine WA_take 2 (by kernel_rfl) rfl (fun _ _ => rn_fieldAddr (off := 3) (by kernel_rfl) rfl) ?_
      refine WA_take 3 (by kernel_rfl) rfl (fun w' hS' => rn_load rfl (Ld.row1 (hr3_d903.kpd hS' (by first | (simp; done) | (simp; omega) | (simp [*]; done))) (by kernel_rfl) rfl)) ?_
      refine WA_take 4 (by kernel_rfl) rfl (fun _ _ => rn_lenSl (e := 5) (sz := 1) (by kernel_rfl) rfl rfl) ?_
      refine WA_take 5 (by kernel_rfl) rfl (fun _ _ => rn_sliceUp (e := 5) (sz := 1) (a.b.length) (by kernel_rfl) rfl ⟨_, _, rfl, by omega⟩ (by omega)) ?_
      refine WA_one 6 (by kernel_rfl) ?_
      refine WO_ent rfl rfl (rn_call (by kernel_rfl) rfl) (hL2 w903 hcut) ?_
      rintro _ w37 ⟨rfl, hb37⟩
      have hS904 := hS903.add0 hb37
      refine ⟨hS904, ?_⟩
      replace hr2 := hr2.new hb37
      replace hr3 := hr3.new hb37
      replace hr4 := hr4.new hb37
      replace hr6 := hr6.new hb37
      replace hr8 := hr8.new hb37
      replace hr11 := hr11.new hb37
      replace hx := hx.new hb37
      replace hcut := hcut.new hb37
      replace hB := hB.acc hb37
      replace hBo := hBo.acc hb37
      refine WA_take 7 (by kernel_rfl) rfl (fun _ _ => rn_move) ?_
      refine WA_take 8 (by kernel_rfl) rfl (fun _ _ => rn_extract rfl rfl) ?_
      refine WA_take 9 (by kernel_rfl) rfl (fun _ _ => rn_extract rfl rfl) ?_
      refine WA_take 10 (by kernel_rfl) rfl (fun _ _ => rn_extract rfl rfl) ?_
      refine WA_one 11 (by kernel_rfl) ?_
      refine WO_sk rfl rfl (sk_storeA 512 (bv P) rfl rfl hr8 (by kernel_rfl) (by first | assumption | (simp; done) | (simp [bv_length, *]; done)) (by first | assumption | (simp; done) | (simp [bv_length, *]; done) | rfl) (by first | exact bv_one _ | assumption | (simp [Value.oneCell']; done)) (fun w906 hr8 ho906 => ?_))
      have hS905 := hS904.add1 ho906 (by first | (left; omega) | (right; simp; done) | (right; simp; omega))
      refine ⟨hS905, ?_⟩
      replace hr2 := hr2.only ho906 (Nat.ne_of_lt lt_g2_g8)
      replace hr3 := hr3.only ho906 (Nat.ne_of_lt lt_g3_g8)
      replace hr4 := hr4.only ho906 (Nat.ne_of_lt lt_g4_g8)
      replace hr6 := hr6.only ho906 (Nat.ne_of_lt lt_g6_g8)
      replace hr11 := hr11.only ho906 (Nat.ne_of_gt lt_g8_g11)
      replace hx := hx.only ho906 (by omega)
      replace hcut := hcut.only ho906 (by omega)
      replace hB := ho906.below hB ge_hB_g8
      replace hBo := ho906.below hBo ge_hBo_g8
      refine WA_take 12 (by kernel_rfl) rfl (fun _ _ => rn_assign) ?_
      refine WA_take 13 (by kernel_rfl) rfl (fun _ _ => rn_assign) ?_
      refine WA_done (by kernel_rfl) ?_
      refine thenN ?_
      refine W_draw' [g11] (by kernel_rfl) ?_
      intro w907 hb907 hS907
      replace hr2 := hr2.new hb907
      replace hr3 := hr3.new hb907
      replace hr4 := hr4.new hb907
      replace hr6 := hr6.new hb907
      replace hr8 := hr8.new hb907
      replace hr11 := hr11.new hb907
      replace hx := hx.new hb907
      replace hcut := hcut.new hb907
      replace hB := hB.acc hb907
      replace hBo := hBo.acc hb907
      have hr2_d907 := hr2
      have hr3_d907 := hr3
      have hr4_d907 := hr4
      have hr6_d907 := hr6
      have hr8_d907 := hr8
      have hr11_d907 := hr11
      have hx_d907 := hx
      have hcut_d907 := hcut
      have hB_d907 := hB
      have hBo_d907 := hBo
      refine WA_take 0 (by kernel_rfl) rfl (fun w' hS' => rn_load rfl (Ld.rowA (k := 3) (hr6_d907.kpd hS' (by first | (simp; done) | (simp; omega) | (simp [*]; done))) (by kernel_rfl) (by kernel_rfl) (by first | (simp; done) | (simp [bv_length, *]; done) | assumption))) ?_
      refine WA_take 1 (by kernel_rfl) rfl (fun w' hS' => rn_load rfl (Ld.rowA (k := 3) (hr6_d907.kpd hS' (by first | (simp; done) | (simp; omega) | (simp [*]; done))) (by kernel_rfl) (by kernel_rfl) (by first | (simp; done) | (simp [bv_length, *]; done) | assumption))) ?_
      refine WA_take 3 (by kernel_rfl) rfl (fun _ _ => rn_fieldAddr (off := 3) (by kernel_rfl) rfl) ?_
      refine WA_take 4 (by kernel_rfl) rfl (fun w' hS' => rn_load rfl (Ld.row1 (hr3_d907.kpd hS' (by first | (simp; done) | (simp; omega) | (simp [*]; done))) (by kernel_rfl) rfl)) ?_
      refine WA_one 2 (by kernel_rfl) ?_
      refine WO_ent rfl rfl (rn_call (by kernel_rfl) rfl) (rfree29 V p0 c0 fl0 w907 [] (hx0.new hBo) (hs0.new hBo)) ?_
      rintro _ w43 ⟨rfl, hb43⟩
      have hS908 := hS907.add0 hb43
      refine ⟨hS908, ?_⟩
      replace hr2 := hr2.new hb43
      replace hr3 := hr3.new hb43
      replace hr4 := hr4.new hb43
      replace hr6 := hr6.new hb43
      replace hr8 := hr8.new hb43
      replace hr11 := hr11.new hb43
      replace hx := hx.new hb43
      replace hcut := hcut.new hb43
      replace hB := hB.acc hb43
      replace hBo := hBo.acc hb43
      refine WA_one 5 (by kernel_rfl) ?_
      have l46 := hr11.lt
      refine WO_ent rfl rfl (rn_call (by kernel_rfl) rfl) (rwith28 V p0 pa c0 ca (freeV V.slots) fl0 a.b w43 [g8, g11] (hx0.new hBo) (hs1.new hBo) (ha.below hB (Nat.le_refl _)) hro (freeV_le _) (by omega)) ?_
      rintro _ w46 ⟨p1, c1, fl1, rfl, hp1, hx1, hrs1, hb46⟩
      have hS909 := hS908.add0 hb46
      refine ⟨hS909, ?_⟩
      replace hr2 := hr2.new hb46
      replace hr3 := hr3.new hb46
      replace hr4 := hr4.new hb46
      replace hr6 := hr6.new hb46
      replace hr8 := hr8.new hb46
      replace hr11 := hr11.new hb46
      replace hx := hx.new hb46
      replace hcut := hcut.new hb46
      replace hB := hB.acc hb46
      replace hBo := hBo.acc hb46
      refine WA_one 6 (by kernel_rfl) ?_
      refine WO_sk rfl rfl (sk_storeA 3 ([.int .i64 (V.kind : Int), .int .i64 (V.next : Int), .slice p1 (setS V.slots (freeV V.slots) a.b).length c1]) rfl rfl hr11 (by kernel_rfl) (by first | assumption | (simp; done) | (simp [bv_length, *]; done)) (by first | assumption | (simp; done) | (simp [bv_length, *]; done) | rfl) (by first | exact bv_one _ | assumption | (simp [Value.oneCell']; done)) (fun w911 hr11 ho911 => ?_))
      have hS910 := hS909.add1 ho911 (by first | (left; omega) | (right; simp; done) | (right; simp; omega))
      refine ⟨hS910, ?_⟩
      replace hr2 := hr2.only ho911 (Nat.ne_of_lt lt_g2_g11)
      replace hr3 := hr3.only ho911 (Nat.ne_of_lt lt_g3_g11)
      replace hr4 := hr4.only ho911 (Nat.ne_of_lt lt_g4_g11)
      replace hr6 := hr6.only ho911 (Nat.ne_of_lt lt_g6_g11)
      replace hr8 := hr8.only ho911 (Nat.ne_of_lt lt_g8_g11)
      replace hx := hx.only ho911 (by omega)
      replace hcut := hcut.only ho911 (by omega)
      replace hrs1 := hrs1.only ho911 (by simp)
      replace hB := ho911.below hB ge_hB_g11
      replace hBo := ho911.below hBo ge_hBo_g11
      replace hx1 := hx1.onlyP ho911 (fun b off e => by have := hp1 b off e; omega)
      refine WA_take 7 (by kernel_rfl) rfl (fun _ _ => rn_assign) ?_
      refine WA_done (by kernel_rfl) ?_
      refine blockN ?_
      refine loopN ⟨(layE V a.b, 0, ((if layE V a.b = 0 then freeV V.slots else 0 : Nat) : Int)), ⟨rfl, rfl, rfl, rfl, rfl, rfl, rfl, rfl, rfl, rfl, rfl, rfl⟩, P, withV V (freeV V.slots) a.b, _, p1, c1, fl1, hps, hr2, hr3, hr4, hr6, hr8, hr11, hx1, hrs1, hx, by rw [← hWo]; exact hBo, hB⟩
    ·
      refine W_seq ?_
      refine W_region ?_
      refine WR_val rfl (rn_eql rfl rfl) ?_
      refine WR_val rfl (rn_assign) ?_
      refine WR_nil ?_
      refine thenN ?_
      refine W_ifp rfl (fun hk2 => ?_) (fun hk2 => ?_)
      ·
        refine W_seq ?_
        have hps := post2 hV hk2 hb
        have hpl := hps.len
        have hobt : ∃ P, putP V a.slot a.b = P := ⟨_, rfl⟩
        obtain ⟨P, hP⟩ := hobt
        have hL2 := hPut (some ⟨g, o1, none⟩) c24
        rw [hP] at hps hpl hL2
        refine W_draw' [g8] (by kernel_rfl) ?_
        intro w912 hb912 hS912
        replace hr2 := hr2.new hb912
        replace hr3 := hr3.new hb912
        replace hr4 := hr4.new hb912
        replace hr6 := hr6.new hb912
        replace hr8 := hr8.new hb912
        replace hr11 := hr11.new hb912
        replace hx := hx.new hb912
        replace hcut := hcut.new hb912
        replace hB := hB.acc hb912
        replace hBo := hBo.acc hb912
        have hr2_d912 := hr2
        have hr3_d912 := hr3
        have hr4_d912 := hr4
        have hr6_d912 := hr6
        have hr8_d912 := hr8
        have hr11_d912 := hr11
        have hx_d912 := hx
        have hcut_d912 := hcut
        have hB_d912 := hB
        have hBo_d912 := hBo
        refine WA_take 0 (by kernel_rfl) rfl (fun w' hS' => rn_load rfl (Ld.rowA (k := 512) (hr2_d912.kpd hS' (by first | (simp; done) | (simp; omega) | (simp [*]; done))) (by kernel_rfl) (by kernel_rfl) (by first | (simp; done) | (simp [bv_length, *]; done) | assumption))) ?_
        refine WA_take 1 (by kernel_rfl) rfl (fun _ _ => rn_fieldAddr (off := 1) (by kernel_rfl) rfl) ?_
        refine WA_take 2 (by kernel_rfl) rfl (fun w' hS' => rn_load rfl (Ld.row1 (hr3_d912.kpd hS' (by first | (simp; done) | (simp; omega) | (simp [*]; done))) (by kernel_rfl) rfl)) ?_
        refine WA_take 3 (by kernel_rfl) rfl (fun _ _ => rn_move) ?_
        refine WA_take 4 (by kernel_rfl) rfl (fun _ _ => rn_fieldAddr (off := 3) (by kernel_rfl) rfl) ?_
        refine WA_take 5 (by kernel_rfl) rfl (fun w' hS' => rn_load rfl (Ld.row1 (hr3_d912.kpd hS' (by first | (simp; done) | (simp; omega) | (simp [*]; done))) (by kernel_rfl) rfl)) ?_
        refine WA_take 6 (by kernel_rfl) rfl (fun _ _ => rn_lenSl (e := 5) (sz := 1) (by kernel_rfl) rfl rfl) ?_
        refine WA_take 7 (by kernel_rfl) rfl (fun _ _ => rn_sliceUp (e := 5) (sz := 1) (a.b.length) (by kernel_rfl) rfl ⟨_, _, rfl, by omega⟩ (by omega)) ?_
        refine WA_one 8 (by kernel_rfl) ?_
        refine WO_ent rfl rfl (rn_call (by kernel_rfl) rfl) (hL2 w912 hcut) ?_
        rintro _ w58 ⟨rfl, hb58⟩
        have hS913 := hS912.add0 hb58
        refine ⟨hS913, ?_⟩
        replace hr2 := hr2.new hb58
        replace hr3 := hr3.new hb58
        replace hr4 := hr4.new hb58
        replace hr6 := hr6.new hb58
        replace hr8 := hr8.new hb58
        replace hr11 := hr11.new hb58
        replace hx := hx.new hb58
        replace hcut := hcut.new hb58
        replace hB := hB.acc hb58
        replace hBo := hBo.acc hb58
        refine WA_take 9 (by kernel_rfl) rfl (fun _ _ => rn_move) ?_
        refine WA_take 10 (by kernel_rfl) rfl (fun _ _ => rn_extract rfl rfl) ?_
        refine WA_take 11 (by kernel_rfl) rfl (fun _ _ => rn_extract rfl rfl) ?_
        refine WA_one 12 (by kernel_rfl) ?_
        refine WO_sk rfl rfl (sk_storeA 512 (bv P) rfl rfl hr8 (by kernel_rfl) (by first | assumption | (simp; done) | (simp [bv_length, *]; done)) (by first | assumption | (simp; done) | (simp [bv_length, *]; done) | rfl) (by first | exact bv_one _ | assumption | (simp [Value.oneCell']; done)) (fun w915 hr8 ho915 => ?_))
        have hS914 := hS913.add1 ho915 (by first | (left; omega) | (right; simp; done) | (right; simp; omega))
        refine ⟨hS914, ?_⟩
        replace hr2 := hr2.only ho915 (Nat.ne_of_lt lt_g2_g8)
        replace hr3 := hr3.only ho915 (Nat.ne_of_lt lt_g3_g8)
        replace hr4 := hr4.only ho915 (Nat.ne_of_lt lt_g4_g8)
        replace hr6 := hr6.only ho915 (Nat.ne_of_lt lt_g6_g8)
        replace hr11 := hr11.only ho915 (Nat.ne_of_gt lt_g8_g11)
        replace hx := hx.only ho915 (by omega)
        replace hcut := hcut.only ho915 (by omega)
        replace hB := ho915.below hB ge_hB_g8
        replace hBo := ho915.below hBo ge_hBo_g8
        refine WA_take 13 (by kernel_rfl) rfl (fun _ _ => rn_assign) ?_
        refine WA_done (by kernel_rfl) ?_
        refine thenN ?_
        refine W_seq ?_
        refine W_region ?_
        refine WR_val rfl (rn_load rfl (Ld.rowA (k := 3) hr6 (by kernel_rfl) (by kernel_rfl) (by first | (simp; done) | (simp [bv_length, *]; done) | assumption))) ?_
        refine WR_val rfl (rn_fieldAddr (off := 1) (by kernel_rfl) rfl) ?_
        refine WR_val rfl (rn_load rfl (Ld.row1 hr3 (by kernel_rfl) rfl)) ?_
        refine WR_ent rfl (rn_call (by kernel_rfl) rfl) (rhas31 V p0 c0 fl0 a.slot w915 [] (hx0.new hBo) (hs0.new hBo)) ?_
        rintro _ w64 ⟨rfl, hb64⟩
        replace hr2 := hr2.new hb64
        replace hr3 := hr3.new hb64
        replace hr4 := hr4.new hb64
        replace hr6 := hr6.new hb64
        replace hr8 := hr8.new hb64
        replace hr11 := hr11.new hb64
        replace hx := hx.new hb64
        replace hcut := hcut.new hb64
        replace hB := hB.acc hb64
        replace hBo := hBo.acc hb64
        refine WR_nil ?_
        refine thenN ?_
        refine W_if rfl (fun hh => ?_) (fun hh => ?_)
        ·
          rw [hh] at hps
          have hobt := hasV_some hh
          obtain ⟨i, r0, hki, hsi⟩ := hobt
          have hil := (List.getElem?_eq_some_iff.1 hsi).1
          refine W_region ?_
          refine WR_val rfl (rn_load rfl (Ld.rowA (k := 3) hr6 (by kernel_rfl) (by kernel_rfl) (by first | (simp; done) | (simp [bv_length, *]; done) | assumption))) ?_
          refine WR_val rfl (rn_fieldAddr (off := 1) (by kernel_rfl) rfl) ?_
          refine WR_val rfl (rn_load rfl (Ld.row1 hr3 (by kernel_rfl) rfl)) ?_
          refine WR_val rfl (rn_fieldAddr (off := 3) (by kernel_rfl) rfl) ?_
          refine WR_val rfl (rn_load rfl (Ld.row1 hr3 (by kernel_rfl) rfl)) ?_
          have l70 := hr11.lt
          have h28 := fun w' h1 h2 h3 => rwith28 V p0 pa c0 ca i fl0 a.b w' [g8, g11] h1 h2 h3 hro (by omega) (by omega)
          rw [← hki] at h28
          refine WR_ent rfl (rn_call (by kernel_rfl) rfl) (h28 w64 (hx0.new hBo) (hs1.new hBo) (ha.below hB (Nat.le_refl _))) ?_
          rintro _ w70 ⟨p1, c1, fl1, rfl, hp1, hx1, hrs1, hb70⟩
          replace hr2 := hr2.new hb70
          replace hr3 := hr3.new hb70
          replace hr4 := hr4.new hb70
          replace hr6 := hr6.new hb70
          replace hr8 := hr8.new hb70
          replace hr11 := hr11.new hb70
          replace hx := hx.new hb70
          replace hcut := hcut.new hb70
          replace hB := hB.acc hb70
          replace hBo := hBo.acc hb70
          refine WR_sk rfl (sk_storeA 3 ([.int .i64 (V.kind : Int), .int .i64 (V.next : Int), .slice p1 (setS V.slots i a.b).length c1]) rfl rfl hr11 (by kernel_rfl) (by first | assumption | (simp; done) | (simp [bv_length, *]; done)) (by first | assumption | (simp; done) | (simp [bv_length, *]; done) | rfl) (by first | exact bv_one _ | assumption | (simp [Value.oneCell']; done)) (fun w916 hr11 ho916 => ?_))
          replace hr2 := hr2.only ho916 (Nat.ne_of_lt lt_g2_g11)
          replace hr3 := hr3.only ho916 (Nat.ne_of_lt lt_g3_g11)
          replace hr4 := hr4.only ho916 (Nat.ne_of_lt lt_g4_g11)
          replace hr6 := hr6.only ho916 (Nat.ne_of_lt lt_g6_g11)
          replace hr8 := hr8.only ho916 (Nat.ne_of_lt lt_g8_g11)
          replace hx := hx.only ho916 (by omega)
          replace hcut := hcut.only ho916 (by omega)
          replace hrs1 := hrs1.only ho916 (by simp)
          replace hB := ho916.below hB ge_hB_g11
          replace hBo := ho916.below hBo ge_hBo_g11
          replace hx1 := hx1.onlyP ho916 (fun b off e => by have := hp1 b off e; omega)
          refine WR_nil ?_
          refine blockN ?_
          have hit : a.slot.toNat = i := by omega
          simp only [if_true, hit] at hps
          refine loopN ⟨(putE V a.slot a.b, 0, 0), ⟨rfl, rfl, rfl, rfl, rfl, rfl, rfl, rfl, rfl, rfl, rfl, rfl⟩, P, withV V i a.b, _, p1, c1, fl1, hps, hr2, hr3, hr4, hr6, hr8, hr11, hx1, hrs1, hx, by rw [← hWo]; exact hBo, hB⟩
        ·
          rw [hh] at hps
          refine W_region ?_
          refine WR_val rfl (rn_assign) ?_
          refine WR_nil ?_
          refine blockN ?_
          refine loopN ⟨(putE V a.slot a.b, 6, 0), ⟨rfl, rfl, rfl, rfl, rfl, rfl, rfl, rfl, rfl, rfl, rfl, rfl⟩, P, V, _, p0, c0, fl0, hps, hr2, hr3, hr4, hr6, hr8, hr11, hx0.new hBo, hs1.new hBo, hx, by rw [← hWo]; exact hBo, hB⟩
      ·
        refine W_seq ?_
        refine W_region ?_
        refine WR_val rfl (rn_eql rfl rfl) ?_
        refine WR_val rfl (rn_assign) ?_
        refine WR_nil ?_
        refine thenN ?_
        refine W_ifp rfl (fun hk3 => ?_) (fun hk3 => ?_)
        ·
          refine W_seq ?_
          have hps := post3 hV hk3
          have hpl := hps.len
          have hobt : ∃ P, takeP V a.slot = P := ⟨_, rfl⟩
          obtain ⟨P, hP⟩ := hobt
          have hL2 := hTake
          rw [hP] at hps hpl hL2
          refine W_region ?_
          refine WR_val rfl (rn_load rfl (Ld.rowA (k := 512) hr2 (by kernel_rfl) (by kernel_rfl) (by first | (simp; done) | (simp [bv_length, *]; done) | assumption))) ?_
          refine WR_val rfl (rn_fieldAddr (off := 1) (by kernel_rfl) rfl) ?_
          refine WR_val rfl (rn_load rfl (Ld.row1 hr3 (by kernel_rfl) rfl)) ?_
          refine WR_ent rfl (rn_call (by kernel_rfl) rfl) (hL2 w24) ?_
          rintro _ w77 ⟨rfl, hb77⟩
          replace hr2 := hr2.new hb77
          replace hr3 := hr3.new hb77
          replace hr4 := hr4.new hb77
          replace hr6 := hr6.new hb77
          replace hr8 := hr8.new hb77
          replace hr11 := hr11.new hb77
          replace hx := hx.new hb77
          replace hcut := hcut.new hb77
          replace hB := hB.acc hb77
          replace hBo := hBo.acc hb77
          refine WR_val rfl (rn_move) ?_
          refine WR_val rfl (rn_extract rfl rfl) ?_
          refine WR_val rfl (rn_extract rfl rfl) ?_
          refine WR_sk rfl (sk_storeA 512 (bv P) rfl rfl hr8 (by kernel_rfl) (by first | assumption | (simp; done) | (simp [bv_length, *]; done)) (by first | assumption | (simp; done) | (simp [bv_length, *]; done) | rfl) (by first | exact bv_one _ | assumption | (simp [Value.oneCell']; done)) (fun w917 hr8 ho917 => ?_))
          replace hr2 := hr2.only ho917 (Nat.ne_of_lt lt_g2_g8)
          replace hr3 := hr3.only ho917 (Nat.ne_of_lt lt_g3_g8)
          replace hr4 := hr4.only ho917 (Nat.ne_of_lt lt_g4_g8)
          replace hr6 := hr6.only ho917 (Nat.ne_of_lt lt_g6_g8)
          replace hr11 := hr11.only ho917 (Nat.ne_of_gt lt_g8_g11)
          replace hx := hx.only ho917 (by omega)
          replace hcut := hcut.only ho917 (by omega)
          replace hB := ho917.below hB ge_hB_g8
          replace hBo := ho917.below hBo ge_hBo_g8
          refine WR_val rfl (rn_assign) ?_
          refine WR_nil ?_
          refine thenN ?_
          refine W_seq ?_
          refine W_region ?_
          refine WR_val rfl (rn_load rfl (Ld.rowA (k := 3) hr6 (by kernel_rfl) (by kernel_rfl) (by first | (simp; done) | (simp [bv_length, *]; done) | assumption))) ?_
          refine WR_val rfl (rn_fieldAddr (off := 1) (by kernel_rfl) rfl) ?_
          refine WR_val rfl (rn_load rfl (Ld.row1 hr3 (by kernel_rfl) rfl)) ?_
          refine WR_ent rfl (rn_call (by kernel_rfl) rfl) (rhas31 V p0 c0 fl0 a.slot w917 [] (hx0.new hBo) (hs0.new hBo)) ?_
          rintro _ w83 ⟨rfl, hb83⟩
          replace hr2 := hr2.new hb83
          replace hr3 := hr3.new hb83
          replace hr4 := hr4.new hb83
          replace hr6 := hr6.new hb83
          replace hr8 := hr8.new hb83
          replace hr11 := hr11.new hb83
          replace hx := hx.new hb83
          replace hcut := hcut.new hb83
          replace hB := hB.acc hb83
          replace hBo := hBo.acc hb83
          refine WR_nil ?_
          refine thenN ?_
          refine W_if rfl (fun hh => ?_) (fun hh => ?_)
          ·
            rw [hh] at hps
            have hobt := hasV_some hh
            obtain ⟨i, r0, hki, hsi⟩ := hobt
            have hil := (List.getElem?_eq_some_iff.1 hsi).1
            refine W_region ?_
            refine WR_val rfl (rn_load rfl (Ld.rowA (k := 3) hr6 (by kernel_rfl) (by kernel_rfl) (by first | (simp; done) | (simp [bv_length, *]; done) | assumption))) ?_
            refine WR_val rfl (rn_fieldAddr (off := 1) (by kernel_rfl) rfl) ?_
            refine WR_val rfl (rn_load rfl (Ld.row1 hr3 (by kernel_rfl) rfl)) ?_
            have l87 := hr11.lt
            have h32 := fun w' h1 h2 => rwithout32 V p0 c0 i fl0 w' [g8, g11] h1 h2 (by omega) (by omega)
            rw [← hki] at h32
            refine WR_ent rfl (rn_call (by kernel_rfl) rfl) (h32 w83 (hx0.new hBo) (hs1.new hBo)) ?_
            rintro _ w87 ⟨p1, c1, fl1, rfl, hp1, hx1, hrs1, hb87⟩
            replace hr2 := hr2.new hb87
            replace hr3 := hr3.new hb87
            replace hr4 := hr4.new hb87
            replace hr6 := hr6.new hb87
            replace hr8 := hr8.new hb87
            replace hr11 := hr11.new hb87
            replace hx := hx.new hb87
            replace hcut := hcut.new hb87
            replace hB := hB.acc hb87
            replace hBo := hBo.acc hb87
            refine WR_sk rfl (sk_storeA 3 ([.int .i64 (V.kind : Int), .int .i64 (V.next : Int), .slice p1 (wtV V i).slots.length c1]) rfl rfl hr11 (by kernel_rfl) (by first | assumption | (simp; done) | (simp [bv_length, *]; done)) (by first | assumption | (simp; done) | (simp [bv_length, *]; done) | rfl) (by first | exact bv_one _ | assumption | (simp [Value.oneCell']; done)) (fun w918 hr11 ho918 => ?_))
            replace hr2 := hr2.only ho918 (Nat.ne_of_lt lt_g2_g11)
            replace hr3 := hr3.only ho918 (Nat.ne_of_lt lt_g3_g11)
            replace hr4 := hr4.only ho918 (Nat.ne_of_lt lt_g4_g11)
            replace hr6 := hr6.only ho918 (Nat.ne_of_lt lt_g6_g11)
            replace hr8 := hr8.only ho918 (Nat.ne_of_lt lt_g8_g11)
            replace hx := hx.only ho918 (by omega)
            replace hcut := hcut.only ho918 (by omega)
            replace hrs1 := hrs1.only ho918 (by simp)
            replace hB := ho918.below hB ge_hB_g11
            replace hBo := ho918.below hBo ge_hBo_g11
            replace hx1 := hx1.onlyP ho918 (fun b off e => by have := hp1 b off e; omega)
            refine WR_nil ?_
            refine blockN ?_
            have hit : a.slot.toNat = i := by omega
            simp only [if_true, hit] at hps
            refine loopN ⟨(0, 0, 0), ⟨by rw [hh]; rfl, rfl, rfl, rfl, rfl, rfl, rfl, rfl, rfl, rfl, rfl, rfl⟩, P, wtV V i, _, p1, c1, fl1, hps, hr2, hr3, hr4, hr6, hr8, hr11, hx1, hrs1, hx, by rw [← hWo]; exact hBo, hB⟩
          ·
            rw [hh] at hps
            refine W_region ?_
            refine WR_val rfl (rn_assign) ?_
            refine WR_nil ?_
            refine blockN ?_
            refine loopN ⟨(6, 6, 0), ⟨by rw [hh]; rfl, rfl, rfl, rfl, rfl, rfl, rfl, rfl, rfl, rfl, rfl, rfl⟩, P, V, _, p0, c0, fl0, hps, hr2, hr3, hr4, hr6, hr8, hr11, hx0.new hBo, hs1.new hBo, hx, by rw [← hWo]; exact hBo, hB⟩
        ·
          refine W_seq ?_
          refine W_region ?_
          refine WR_val rfl (rn_eql rfl rfl) ?_
          refine WR_val rfl (rn_assign) ?_
          refine WR_nil ?_
          refine thenN ?_
          refine W_ifp rfl (fun hk4 => ?_) (fun hk4 => ?_)
          ·
            refine W_seq ?_
            have hps := post4 hV hk4
            have hpl := hps.len
            have hobt : ∃ P, linkP V a.next = P := ⟨_, rfl⟩
            obtain ⟨P, hP⟩ := hobt
            have hL2 := hLink
            rw [hP] at hps hpl hL2
            refine W_region ?_
            refine WR_val rfl (rn_load rfl (Ld.rowA (k := 512) hr2 (by kernel_rfl) (by kernel_rfl) (by first | (simp; done) | (simp [bv_length, *]; done) | assumption))) ?_
            refine WR_val rfl (rn_fieldAddr (off := 2) (by kernel_rfl) rfl) ?_
            refine WR_val rfl (rn_load rfl (Ld.row1 hr3 (by kernel_rfl) rfl)) ?_
            refine WR_ent rfl (rn_call (by kernel_rfl) rfl) (hL2 w24) ?_
            rintro _ w94 ⟨rfl, hb94⟩
            replace hr2 := hr2.new hb94
            replace hr3 := hr3.new hb94
            replace hr4 := hr4.new hb94
            replace hr6 := hr6.new hb94
            replace hr8 := hr8.new hb94
            replace hr11 := hr11.new hb94
            replace hx := hx.new hb94
            replace hcut := hcut.new hb94
            replace hB := hB.acc hb94
            replace hBo := hBo.acc hb94
            refine WR_val rfl (rn_move) ?_
            refine WR_val rfl (rn_extract rfl rfl) ?_
            refine WR_val rfl (rn_extract rfl rfl) ?_
            refine WR_sk rfl (sk_storeA 512 (bv P) rfl rfl hr8 (by kernel_rfl) (by first | assumption | (simp; done) | (simp [bv_length, *]; done)) (by first | assumption | (simp; done) | (simp [bv_length, *]; done) | rfl) (by first | exact bv_one _ | assumption | (simp [Value.oneCell']; done)) (fun w919 hr8 ho919 => ?_))
            replace hr2 := hr2.only ho919 (Nat.ne_of_lt lt_g2_g8)
            replace hr3 := hr3.only ho919 (Nat.ne_of_lt lt_g3_g8)
            replace hr4 := hr4.only ho919 (Nat.ne_of_lt lt_g4_g8)
            replace hr6 := hr6.only ho919 (Nat.ne_of_lt lt_g6_g8)
            replace hr11 := hr11.only ho919 (Nat.ne_of_gt lt_g8_g11)
            replace hx := hx.only ho919 (by omega)
            replace hcut := hcut.only ho919 (by omega)
            replace hB := ho919.below hB ge_hB_g8
            replace hBo := ho919.below hBo ge_hBo_g8
            refine WR_val rfl (rn_assign) ?_
            refine WR_nil ?_
            refine thenN ?_
            refine W_seq ?_
            refine W_region ?_
            refine WR_val rfl (rn_fieldAddr (off := 2) (by kernel_rfl) rfl) ?_
            refine WR_val rfl (rn_load rfl (Ld.row1 hr3 (by kernel_rfl) rfl)) ?_
            refine WR_val rfl (rn_fieldAddr (off := 1) (by kernel_rfl) rfl) ?_
            refine WR_sk rfl (sk_store1 rfl rfl rfl rfl hr11 (by kernel_rfl) (by first | (simp only [List.length_replicate]; omega) | (simp only [iv_length]; omega) | (simp only [bv_length, List.length_set]; omega) | simp) (fun w920 hr11 ho920 => ?_))
            replace hr2 := hr2.only ho920 (Nat.ne_of_lt lt_g2_g11)
            replace hr3 := hr3.only ho920 (Nat.ne_of_lt lt_g3_g11)
            replace hr4 := hr4.only ho920 (Nat.ne_of_lt lt_g4_g11)
            replace hr6 := hr6.only ho920 (Nat.ne_of_lt lt_g6_g11)
            replace hr8 := hr8.only ho920 (Nat.ne_of_lt lt_g8_g11)
            replace hx := hx.only ho920 (by omega)
            replace hcut := hcut.only ho920 (by omega)
            replace hB := ho920.below hB ge_hB_g11
            replace hBo := ho920.below hBo ge_hBo_g11
            refine WR_nil ?_
            refine thenN ?_
            refine W_seq ?_
            refine W_region ?_
            refine WR_val rfl (rn_fieldAddr (off := 2) (by kernel_rfl) rfl) ?_
            refine WR_val rfl (rn_load rfl (Ld.row1 hr3 (by kernel_rfl) rfl)) ?_
            refine WR_val rfl (rn_lss rfl rfl) ?_
            refine WR_val rfl (rn_move) ?_
            refine WR_part 103 rfl (fun h0 => ?_) (fun h0 => ?_)
            ·
              refine WR_no rfl rfl ?_
              refine WR_no rfl rfl ?_
              refine WR_no rfl rfl ?_
              refine WR_val rfl (rn_pick_t rfl) ?_
              refine WR_nil ?_
              refine thenN ?_
              refine W_tb rfl (rfl) ?_
              refine W_region ?_
              refine WR_val rfl (rn_assign) ?_
              refine WR_nil ?_
              refine blockN ?_
              have hno : ¬ (0 ≤ a.next ∧ a.next < 2147483648) := by omega
              simp only [if_neg hno] at hps
              refine loopN ⟨(2, 2, 0), ⟨by rw [if_neg hno]; rfl, rfl, rfl, rfl, rfl, rfl, rfl, rfl, rfl, rfl, rfl, rfl⟩, P, V, _, p0, c0, fl0, hps, hr2, hr3, hr4, hr6, hr8, hr11, hx0.new hBo, hs1.new hBo, hx, by rw [← hWo]; exact hBo, hB⟩
            ·
              refine WR_yes rfl ?_
              refine WR_val rfl (rn_fieldAddr (off := 2) (by kernel_rfl) rfl) ?_
              refine WR_yes rfl ?_
              refine WR_val rfl (rn_load rfl (Ld.row1 hr3 (by kernel_rfl) rfl)) ?_
              refine WR_yes rfl ?_
              refine WR_val rfl (rn_gtr rfl rfl) ?_
              refine WR_val rfl (rn_pick_f rfl) ?_
              refine WR_nil ?_
              refine thenN ?_
              refine W_ifp rfl (fun h1 => ?_) (fun h1 => ?_)
              ·
                refine W_region ?_
                refine WR_val rfl (rn_assign) ?_
                refine WR_nil ?_
                refine blockN ?_
                have hno : ¬ (0 ≤ a.next ∧ a.next < 2147483648) := by omega
                simp only [if_neg hno] at hps
                refine loopN ⟨(2, 2, 0), ⟨by rw [if_neg hno]; rfl, rfl, rfl, rfl, rfl, rfl, rfl, rfl, rfl, rfl, rfl, rfl⟩, P, V, _, p0, c0, fl0, hps, hr2, hr3, hr4, hr6, hr8, hr11, hx0.new hBo, hs1.new hBo, hx, by rw [← hWo]; exact hBo, hB⟩
              ·
                have hyes : 0 ≤ a.next ∧ a.next < 2147483648 := by omega
                simp only [if_pos hyes] at hps
                refine W_skip ?_
                refine blockN ?_
                refine loopN ⟨(0, 0, 0), ⟨by rw [if_pos hyes]; rfl, rfl, rfl, rfl, rfl, rfl, rfl, rfl, rfl, rfl, rfl, rfl⟩, P, linkV V a.next, _, p0, c0, fl0, hps, hr2, hr3, hr4, hr6, hr8, hr11, hx0.new hBo, hs1.new hBo, hx, by rw [← hWo]; exact hBo, hB⟩
          ·
            have hV4 : actV V a = V := by rw [actV, if_neg hk1, if_neg hk2, if_neg hk3, if_neg hk4]
            rw [hV4, hQ]
            refine W_seq ?_
            refine W_region ?_
            refine WR_val rfl (rn_load rfl (Ld.rowA (k := 512) hr2 (by kernel_rfl) (by kernel_rfl) (by first | (simp; done) | (simp [bv_length, *]; done) | assumption))) ?_
            refine WR_sk rfl (sk_storeA 512 (bv Q) rfl rfl hr4 (by kernel_rfl) (by first | assumption | (simp; done) | (simp [bv_length, *]; done)) (by first | assumption | (simp; done) | (simp [bv_length, *]; done) | rfl) (by first | exact bv_one _ | assumption | (simp [Value.oneCell']; done)) (fun w921 hr4 ho921 => ?_))
            replace hr2 := hr2.only ho921 (Nat.ne_of_lt lt_g2_g4)
            replace hr3 := hr3.only ho921 (Nat.ne_of_lt lt_g3_g4)
            replace hr6 := hr6.only ho921 (Nat.ne_of_gt lt_g4_g6)
            replace hr8 := hr8.only ho921 (Nat.ne_of_gt lt_g4_g8)
            replace hr11 := hr11.only ho921 (Nat.ne_of_gt lt_g4_g11)
            replace hx := hx.only ho921 (by omega)
            replace hcut := hcut.only ho921 (by omega)
            replace hB := ho921.below hB ge_hB_g4
            refine WR_val rfl (rn_assign) ?_
            refine WR_nil ?_
            refine thenN ?_
            refine W_ret ?_
            refine blockR ?_
            refine loopR ?_
            refine ret_ret [_, _] ⟨⟨_, rfl, Ld.rowA (k := 512) hr4 (by kernel_rfl) (by kernel_rfl) (by first | (simp; done) | (simp [bv_length, *]; done) | assumption)⟩, rfl, trivial⟩ ?_
            exact ⟨rfl, hB⟩
  ·
    rintro ⟨e, no, sl⟩ f2 wz ⟨P, X, k, p, c, fl, hps, hr2, hr3, hr4, hr6, hr8, hr11, hx1, hrs1, hx, hBo, hB⟩
    simp only at hps
    have hpl := hps.len
    have hXs := hps.size
    have hsz := fun w' h1 h2 => rsize33 X p c fl w' [g8, g11] h1 h2 (by omega) k
    rw [hps.kind] at hsz
    refine W_cut (fun q : Nat => [(12, .int .i64 (q : Nat)), (9, .int .i64 (e : Nat)), (10, .int .i64 sl), (7, .bool true), (13, .slice (some ⟨g, o1, none⟩) (a.b.length + 1) c24), (2, .pointer (some ⟨g2, 0, none⟩)), (3, .pointer (some ⟨g3, 0, none⟩)), (4, .pointer (some ⟨g4, 0, none⟩)), (6, .pointer (some ⟨g6, 0, none⟩)), (8, .pointer (some ⟨g8, 0, none⟩)), (11, .pointer (some ⟨g11, 0, none⟩))]) (fun q w' => q = no1 a no ∧ wz = w') ?_ ?_
    ·
      refine W_seq ?_
      refine W_region ?_
      refine WR_val rfl (rn_fieldAddr (off := 0) (by kernel_rfl) rfl) ?_
      refine WR_val rfl (rn_load rfl (Ld.row1 hr3 (by kernel_rfl) rfl)) ?_
      refine WR_val rfl (rn_leq rfl rfl) ?_
      refine WR_val rfl (rn_move) ?_
      refine WR_part 111 rfl (fun hk => ?_) (fun hk => ?_)
      ·
        refine WR_yes rfl ?_
        refine WR_val rfl (rn_fieldAddr (off := 3) (by kernel_rfl) rfl) ?_
        refine WR_yes rfl ?_
        refine WR_val rfl (rn_load rfl (Ld.row1 hr3 (by kernel_rfl) rfl)) ?_
        refine WR_yes rfl ?_
        refine WR_val rfl (rn_lenSl (e := 5) (sz := 1) (by kernel_rfl) rfl rfl) ?_
        refine WR_yes rfl ?_
        refine WR_val rfl (rn_gtr rfl rfl) ?_
        refine WR_val rfl (rn_pick_t rfl) ?_
        refine WR_nil ?_
        refine thenN ?_
        refine W_ifp rfl (fun hlen => ?_) (fun hlen => ?_)
        ·
          refine W_region ?_
          refine WR_val rfl (rn_assign) ?_
          refine WR_nil ?_
          refine loopN ⟨3, ⟨rfl, rfl, rfl, rfl, rfl, rfl, rfl, rfl, rfl, rfl, rfl, rfl⟩, by rw [no1, if_pos ⟨hk, by omega⟩], rfl⟩
        ·
          refine W_skip ?_
          refine loopN ⟨no, ⟨rfl, rfl, rfl, rfl, rfl, rfl, rfl, rfl, rfl, rfl, rfl, rfl⟩, by rw [no1, if_neg (by omega)], rfl⟩
      ·
        refine WR_no rfl rfl ?_
        refine WR_no rfl rfl ?_
        refine WR_no rfl rfl ?_
        refine WR_no rfl rfl ?_
        refine WR_val rfl (rn_pick_f rfl) ?_
        refine WR_nil ?_
        refine thenN ?_
        refine W_f rfl ?_
        refine W_skip ?_
        refine loopN ⟨no, ⟨rfl, rfl, rfl, rfl, rfl, rfl, rfl, rfl, rfl, rfl, rfl, rfl⟩, by rw [no1, if_neg (by omega)], rfl⟩
    ·
      rintro n1 f3 wy ⟨hn1, rfl⟩
      refine W_cut (fun q : Nat => [(12, .int .i64 (q : Nat)), (9, .int .i64 (e : Nat)), (10, .int .i64 sl), (7, .bool true), (13, .slice (some ⟨g, o1, none⟩) (a.b.length + 1) c24), (2, .pointer (some ⟨g2, 0, none⟩)), (3, .pointer (some ⟨g3, 0, none⟩)), (4, .pointer (some ⟨g4, 0, none⟩)), (6, .pointer (some ⟨g6, 0, none⟩)), (8, .pointer (some ⟨g8, 0, none⟩)), (11, .pointer (some ⟨g11, 0, none⟩))]) (fun q w' => q = no2 a no X ∧ row w' g2 (bv Q) 23 ∧ row w' g3 (actC a pa ca) 39 ∧ row w' g4 (bv Z) 23 ∧ row w' g6 (vw V p0 c0) 57 ∧ row w' g8 (bv P) 23 ∧ row w' g11 [.int .i64 (V.kind : Int), .int .i64 k, .slice p X.slots.length c] 57 ∧ SlAt w' p X.slots.length 2 fl ∧ RsAt w' [g8, g11] fl X.slots ∧ SlAt w' (some ⟨g, o1, none⟩) (a.b.length + 1) 1 (bv (a.b ++ [7])) ∧ Below Wo.heap.size Wo w' ∧ Below w.heap.size w w') ?_ ?_
      ·
        refine W_seq ?_
        refine W_region ?_
        refine WR_val rfl (rn_move) ?_
        refine WR_val rfl (rn_eql rfl rfl) ?_
        refine WR_val rfl (rn_move) ?_
        refine WR_part 119 rfl (fun h10 => ?_) (fun h10 => ?_)
        ·
          refine WR_yes rfl ?_
          refine WR_val rfl (rn_load rfl (Ld.rowA (k := 3) hr11 (by kernel_rfl) (by kernel_rfl) (by first | (simp; done) | (simp [bv_length, *]; done) | assumption))) ?_
          refine WR_yes rfl ?_
          refine WR_ent rfl (rn_call (by kernel_rfl) rfl) (hsz wz hx1 hrs1) ?_
          rintro _ w121 ⟨rfl, hb121⟩
          replace hr2 := hr2.new hb121
          replace hr3 := hr3.new hb121
          replace hr4 := hr4.new hb121
          replace hr6 := hr6.new hb121
          replace hr8 := hr8.new hb121
          replace hr11 := hr11.new hb121
          replace hx := hx.new hb121
          replace hx1 := hx1.new hb121
          replace hrs1 := hrs1.new hb121
          replace hB := hB.acc hb121
          replace hBo := hBo.acc hb121
          refine WR_yes rfl ?_
          refine WR_val rfl (rn_gtr rfl rfl) ?_
          refine WR_val rfl (rn_pick_t rfl) ?_
          refine WR_nil ?_
          refine thenN ?_
          refine W_ifp rfl (fun hfull => ?_) (fun hfull => ?_)
          ·
            refine W_region ?_
            refine WR_val rfl (rn_assign) ?_
            refine WR_nil ?_
            refine loopN ⟨8, ⟨rfl, rfl, rfl, rfl, rfl, rfl, rfl, rfl, rfl, rfl, rfl, rfl⟩, by rw [no2, if_pos ⟨by omega, by omega⟩], hr2, hr3, hr4, hr6, hr8, hr11, hx1, hrs1, hx, hBo, hB⟩
          ·
            refine W_skip ?_
            refine loopN ⟨n1, ⟨rfl, rfl, rfl, rfl, rfl, rfl, rfl, rfl, rfl, rfl, rfl, rfl⟩, by rw [no2, if_neg (by omega), hn1], hr2, hr3, hr4, hr6, hr8, hr11, hx1, hrs1, hx, hBo, hB⟩
        ·
          refine WR_no rfl rfl ?_
          refine WR_no rfl rfl ?_
          refine WR_no rfl rfl ?_
          refine WR_val rfl (rn_pick_f rfl) ?_
          refine WR_nil ?_
          refine thenN ?_
          refine W_f rfl ?_
          refine W_skip ?_
          refine loopN ⟨n1, ⟨rfl, rfl, rfl, rfl, rfl, rfl, rfl, rfl, rfl, rfl, rfl, rfl⟩, by rw [no2, if_neg (by omega), hn1], hr2, hr3, hr4, hr6, hr8, hr11, hx1, hrs1, hx, hBo, hB⟩
      ·
        rintro n2 f4 wx ⟨hn2, hr2, hr3, hr4, hr6, hr8, hr11, hx1, hrs1, hx, hBo, hB⟩
        have hee := hps.e_
        refine W_seq ?_
        refine W_seq ?_
        refine W_region ?_
        refine WR_val rfl (rn_move) ?_
        refine WR_val rfl (rn_not rfl) ?_
        refine WR_nil ?_
        refine thenN ?_
        refine W_fnb rfl (rfl) ?_
        refine W_skip ?_
        refine thenN ?_
        refine W_seq ?_
        refine W_seq ?_
        refine W_region ?_
        refine WR_val rfl (rn_move) ?_
        refine WR_val rfl (rn_str (e := 5) (by kernel_rfl) (by kernel_rfl) (by kernel_rfl) rfl hx) ?_
        refine WR_val rfl (rn_fieldAddr (off := 3) (by kernel_rfl) rfl) ?_
        refine WR_val rfl (rn_load rfl (Ld.row1 hr3 (by kernel_rfl) rfl)) ?_
        refine WR_val rfl (rn_str (e := 5) (by kernel_rfl) (by kernel_rfl) (by kernel_rfl) rfl (ha.below hB (Nat.le_refl _))) ?_
        refine WR_val rfl (rn_adds (a := a.b) (b := [7]) rfl rfl (by simp only [List.length_cons, List.length_nil]; omega)) ?_
        refine WR_val rfl (rn_neqS rfl rfl) ?_
        refine WR_val rfl (rn_move) ?_
        refine WR_fn 133 rfl ((by simp)) ?_
        refine WR_yes rfl ?_
        refine WR_val rfl (rn_move) ?_
        refine WR_yes rfl ?_
        refine WR_val rfl (rn_move) ?_
        refine WR_yes rfl ?_
        refine WR_val rfl (rn_neq rfl rfl) ?_
        refine WR_val rfl (rn_pick_f rfl) ?_
        refine WR_nil ?_
        refine thenN ?_
        refine W_fp rfl ((by omega)) ?_
        refine W_skip ?_
        refine thenN ?_
        refine W_seq ?_
        refine W_seq ?_
        refine W_region ?_
        refine WR_val rfl (rn_move) ?_
        refine WR_val rfl (rn_neq rfl rfl) ?_
        refine WR_nil ?_
        refine thenN ?_
        refine W_ifp rfl (fun hne => ?_) (fun hne => ?_)
        ·
          refine W_seq ?_
          have hbd := hps.bad (by omega)
          obtain ⟨hPz, hs0, hVV⟩ := hbd
          rw [hzz] at hPz
          refine W_draw' [g4] (by kernel_rfl) ?_
          intro w922 hb922 hS922
          replace hr2 := hr2.new hb922
          replace hr3 := hr3.new hb922
          replace hr4 := hr4.new hb922
          replace hr6 := hr6.new hb922
          replace hr8 := hr8.new hb922
          replace hr11 := hr11.new hb922
          replace hB := hB.acc hb922
          have hr2_d922 := hr2
          have hr3_d922 := hr3
          have hr4_d922 := hr4
          have hr6_d922 := hr6
          have hr8_d922 := hr8
          have hr11_d922 := hr11
          have hB_d922 := hB
          refine WA_take 0 (by kernel_rfl) rfl (fun w' hS' => rn_load rfl (Ld.rowA (k := 512) (hr2_d922.kpd hS' (by first | (simp; done) | (simp; omega) | (simp [*]; done))) (by kernel_rfl) (by kernel_rfl) (by first | (simp; done) | (simp [bv_length, *]; done) | assumption))) ?_
          refine WA_take 1 (by kernel_rfl) rfl (fun w' hS' => rn_load rfl (Ld.rowA (k := 512) (hr8_d922.kpd hS' (by first | (simp; done) | (simp; omega) | (simp [*]; done))) (by kernel_rfl) (by kernel_rfl) (by first | (simp; done) | (simp [bv_length, *]; done) | assumption))) ?_
          refine WA_take 2 (by kernel_rfl) rfl (fun _ _ => rn_zeroed (bv Z) (by rw [← hzb]; kernel_rfl)) ?_
          refine WA_take 3 (by kernel_rfl) rfl (fun _ _ => rn_eqlA (n := 512) (by kernel_rfl) rfl rfl (by rw [bv_length] at hpl; exact hpl) (by rw [bv_length] at hzl; exact hzl)) ?_
          refine WA_take 4 (by kernel_rfl) rfl (fun _ _ => rn_move) ?_
          refine WA_tp 145 rfl ((by simpa using hPz)) ?_
          refine WA_take 5 (by kernel_rfl) rfl (fun _ _ => rn_move) ?_
          refine WA_take 6 (by kernel_rfl) rfl (fun _ _ => rn_eql rfl rfl) ?_
          refine WA_take 7 (by kernel_rfl) rfl (fun _ _ => rn_pick_t rfl) ?_
          refine WA_one 8 (by kernel_rfl) ?_
          refine WO_sk rfl rfl (sk_storeA 512 (bv Q) rfl rfl hr4 (by kernel_rfl) (by first | assumption | (simp; done) | (simp [bv_length, *]; done)) (by first | assumption | (simp; done) | (simp [bv_length, *]; done) | rfl) (by first | exact bv_one _ | assumption | (simp [Value.oneCell']; done)) (fun w924 hr4 ho924 => ?_))
          have hS923 := hS922.add1 ho924 (by first | (left; omega) | (right; simp; done) | (right; simp; omega))
          refine ⟨hS923, ?_⟩
          replace hr2 := hr2.only ho924 (Nat.ne_of_lt lt_g2_g4)
          replace hr3 := hr3.only ho924 (Nat.ne_of_lt lt_g3_g4)
          replace hr6 := hr6.only ho924 (Nat.ne_of_gt lt_g4_g6)
          replace hr8 := hr8.only ho924 (Nat.ne_of_gt lt_g4_g8)
          replace hr11 := hr11.only ho924 (Nat.ne_of_gt lt_g4_g11)
          replace hB := ho924.below hB ge_hB_g4
          refine WA_take 9 (by kernel_rfl) rfl (fun _ _ => rn_assign) ?_
          refine WA_done (by kernel_rfl) ?_
          refine thenN ?_
          refine W_ret ?_
          refine thenR ?_
          refine ret_ret [_, _] ⟨⟨_, rfl, Ld.rowA (k := 512) hr4 (by kernel_rfl) (by kernel_rfl) (by first | (simp; done) | (simp [bv_length, *]; done) | assumption)⟩, rfl, trivial⟩ ?_
          refine ⟨?_, hB⟩
          show Value.tuple #[.agg (bv Q).toArray, .bool (decide (sl = 0))] = _
          rw [decide_eq_true hs0, hVV, hQ]
        ·
          have hok := hps.ok (by omega)
          obtain ⟨hPx, hsl, hk0, hXX, hXG⟩ := hok
          have hBy := fun w' h1 h2 => rbytes34 X p c fl w' [g8, g11] h1 h2 (by have := hXG.kind; omega) hXG.next hXG.size
          rw [hps.kind, ← hk0, ← hPx] at hBy
          have hpl2 : P.length = 512 := by rw [bv_length] at hpl; exact hpl
          have hPy := hPx.symm
          clear hPx
          rw [← hWo] at hBo
          refine W_skip ?_
          refine thenN ?_
          refine W_seq ?_
          refine W_draw' [g4] (by kernel_rfl) ?_
          intro w925 hb925 hS925
          replace hr2 := hr2.new hb925
          replace hr3 := hr3.new hb925
          replace hr4 := hr4.new hb925
          replace hr6 := hr6.new hb925
          replace hr8 := hr8.new hb925
          replace hr11 := hr11.new hb925
          replace hx := hx.new hb925
          replace hx1 := hx1.new hb925
          replace hrs1 := hrs1.new hb925
          replace hB := hB.acc hb925
          replace hBo := hBo.acc hb925
          have hr2_d925 := hr2
          have hr3_d925 := hr3
          have hr4_d925 := hr4
          have hr6_d925 := hr6
          have hr8_d925 := hr8
          have hr11_d925 := hr11
          have hx_d925 := hx
          have hx1_d925 := hx1
          have hrs1_d925 := hrs1
          have hB_d925 := hB
          have hBo_d925 := hBo
          refine WA_take 0 (by kernel_rfl) rfl (fun w' hS' => rn_load rfl (Ld.rowA (k := 512) (hr8_d925.kpd hS' (by first | (simp; done) | (simp; omega) | (simp [*]; done))) (by kernel_rfl) (by kernel_rfl) (by first | (simp; done) | (simp [bv_length, *]; done) | assumption))) ?_
          refine WA_take 1 (by kernel_rfl) rfl (fun w' hS' => rn_load rfl (Ld.rowA (k := 512) (hr8_d925.kpd hS' (by first | (simp; done) | (simp; omega) | (simp [*]; done))) (by kernel_rfl) (by kernel_rfl) (by first | (simp; done) | (simp [bv_length, *]; done) | assumption))) ?_
          refine WA_take 2 (by kernel_rfl) rfl (fun w' hS' => rn_load rfl (Ld.rowA (k := 3) (hr11_d925.kpd hS' (by first | (simp; done) | (simp; omega) | (simp [*]; done))) (by kernel_rfl) (by kernel_rfl) (by first | (simp; done) | (simp [bv_length, *]; done) | assumption))) ?_
          refine WA_one 3 (by kernel_rfl) ?_
          refine WO_ent rfl rfl (rn_call (by kernel_rfl) rfl) (hBy w925 hx1 hrs1) ?_
          rintro _ w152 ⟨rfl, hb152⟩
          have hS926 := hS925.add0 hb152
          refine ⟨hS926, ?_⟩
          replace hr2 := hr2.new hb152
          replace hr3 := hr3.new hb152
          replace hr4 := hr4.new hb152
          replace hr6 := hr6.new hb152
          replace hr8 := hr8.new hb152
          replace hr11 := hr11.new hb152
          replace hx := hx.new hb152
          replace hx1 := hx1.new hb152
          replace hrs1 := hrs1.new hb152
          replace hB := hB.acc hb152
          replace hBo := hBo.acc hb152
          refine WA_take 4 (by kernel_rfl) rfl (fun _ _ => rn_eqlA (n := 512) (by kernel_rfl) rfl rfl hpl2 hpl2) ?_
          refine WA_take 5 (by kernel_rfl) rfl (fun _ _ => rn_move) ?_
          refine WA_tp 154 rfl ((by simp)) ?_
          refine WA_take 6 (by kernel_rfl) rfl (fun _ _ => rn_fieldAddr (off := 0) (by kernel_rfl) rfl) ?_
          refine WA_take 7 (by kernel_rfl) rfl (fun w' hS' => rn_load rfl (Ld.row1 (hr3_d925.kpd hS' (by first | (simp; done) | (simp; omega) | (simp [*]; done))) (by kernel_rfl) rfl)) ?_
          refine WA_take 8 (by kernel_rfl) rfl (fun _ _ => rn_neq rfl rfl) ?_
          refine WA_take 9 (by kernel_rfl) rfl (fun _ _ => rn_move) ?_
          refine WA_part 158 rfl (fun hkn => ?_) (fun hkn => ?_)
          ·
            refine WA_skip 10 (by kernel_rfl) rfl ?_
            refine WA_skip 11 (by kernel_rfl) rfl ?_
            refine WA_skip 12 (by kernel_rfl) rfl ?_
            refine WA_skip 13 (by kernel_rfl) rfl ?_
            refine WA_take 14 (by kernel_rfl) rfl (fun _ _ => rn_pick_t rfl) ?_
            refine WA_take 15 (by kernel_rfl) rfl (fun _ _ => rn_pick_t rfl) ?_
            refine WA_one 16 (by kernel_rfl) ?_
            refine WO_sk rfl rfl (sk_storeA 512 (bv P) rfl rfl hr4 (by kernel_rfl) (by first | assumption | (simp; done) | (simp [bv_length, *]; done)) (by first | assumption | (simp; done) | (simp [bv_length, *]; done) | rfl) (by first | exact bv_one _ | assumption | (simp [Value.oneCell']; done)) (fun w928 hr4 ho928 => ?_))
            have hS927 := hS926.add1 ho928 (by first | (left; omega) | (right; simp; done) | (right; simp; omega))
            refine ⟨hS927, ?_⟩
            replace hr2 := hr2.only ho928 (Nat.ne_of_lt lt_g2_g4)
            replace hr3 := hr3.only ho928 (Nat.ne_of_lt lt_g3_g4)
            replace hr6 := hr6.only ho928 (Nat.ne_of_gt lt_g4_g6)
            replace hr8 := hr8.only ho928 (Nat.ne_of_gt lt_g4_g8)
            replace hr11 := hr11.only ho928 (Nat.ne_of_gt lt_g4_g11)
            replace hB := ho928.below hB ge_hB_g4
            refine WA_take 17 (by kernel_rfl) rfl (fun _ _ => rn_assign) ?_
            refine WA_done (by kernel_rfl) ?_
            refine thenN ?_
            refine W_ret ?_
            refine ret_ret [_, _] ⟨⟨_, rfl, Ld.rowA (k := 512) hr4 (by kernel_rfl) (by kernel_rfl) (by first | (simp; done) | (simp [bv_length, *]; done) | assumption)⟩, rfl, trivial⟩ ?_
            refine ⟨?_, hB⟩
            rw [hXX, hPy]
            rfl
          ·
            refine WA_take 10 (by kernel_rfl) rfl (fun _ _ => rn_move) ?_
            refine WA_take 11 (by kernel_rfl) rfl (fun w' hS' => rn_load rfl (Ld.rowA (k := 3) (hr6_d925.kpd hS' (by first | (simp; done) | (simp; omega) | (simp [*]; done))) (by kernel_rfl) (by kernel_rfl) (by first | (simp; done) | (simp [bv_length, *]; done) | assumption))) ?_
            refine WA_one 12 (by kernel_rfl) ?_
            refine WO_ent rfl rfl (rn_call (by kernel_rfl) rfl) (rfree29 V p0 c0 fl0 w152 [g8, g11] (hx0.new hBo) (hs1.new hBo)) ?_
            rintro _ w161 ⟨rfl, hb161⟩
            have hS929 := hS926.add0 hb161
            refine ⟨hS929, ?_⟩
            replace hr2 := hr2.new hb161
            replace hr3 := hr3.new hb161
            replace hr4 := hr4.new hb161
            replace hr6 := hr6.new hb161
            replace hr8 := hr8.new hb161
            replace hr11 := hr11.new hb161
            replace hx := hx.new hb161
            replace hx1 := hx1.new hb161
            replace hrs1 := hrs1.new hb161
            replace hB := hB.acc hb161
            replace hBo := hBo.acc hb161
            refine WA_take 13 (by kernel_rfl) rfl (fun _ _ => rn_eql rfl rfl) ?_
            refine WA_take 14 (by kernel_rfl) rfl (fun _ _ => rn_pick_f rfl) ?_
            refine WA_take 15 (by kernel_rfl) rfl (fun _ _ => rn_pick_t rfl) ?_
            refine WA_one 16 (by kernel_rfl) ?_
            refine WO_sk rfl rfl (sk_storeA 512 (bv P) rfl rfl hr4 (by kernel_rfl) (by first | assumption | (simp; done) | (simp [bv_length, *]; done)) (by first | assumption | (simp; done) | (simp [bv_length, *]; done) | rfl) (by first | exact bv_one _ | assumption | (simp [Value.oneCell']; done)) (fun w931 hr4 ho931 => ?_))
            have hS930 := hS929.add1 ho931 (by first | (left; omega) | (right; simp; done) | (right; simp; omega))
            refine ⟨hS930, ?_⟩
            replace hr2 := hr2.only ho931 (Nat.ne_of_lt lt_g2_g4)
            replace hr3 := hr3.only ho931 (Nat.ne_of_lt lt_g3_g4)
            replace hr6 := hr6.only ho931 (Nat.ne_of_gt lt_g4_g6)
            replace hr8 := hr8.only ho931 (Nat.ne_of_gt lt_g4_g8)
            replace hr11 := hr11.only ho931 (Nat.ne_of_gt lt_g4_g11)
            replace hB := ho931.below hB ge_hB_g4
            refine WA_take 17 (by kernel_rfl) rfl (fun _ _ => rn_assign) ?_
            refine WA_done (by kernel_rfl) ?_
            refine thenN ?_
            refine W_ret ?_
            refine ret_ret [_, _] ⟨⟨_, rfl, Ld.rowA (k := 512) hr4 (by kernel_rfl) (by kernel_rfl) (by first | (simp; done) | (simp [bv_length, *]; done) | assumption)⟩, rfl, trivial⟩ ?_
            refine ⟨?_, hB⟩
            show Value.tuple #[.agg (bv P).toArray, .bool (decide (sl = (freeV V.slots : Nat)))] = _
            rw [decide_eq_true (hsl (by omega)), hXX, hPy]
end Go.Proofs.Ytjdcopfnhkfimaa
