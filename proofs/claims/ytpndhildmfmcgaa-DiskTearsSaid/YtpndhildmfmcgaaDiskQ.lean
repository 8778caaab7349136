/- The document's disk: a sector's versions set anew; Write. -/
import Derived.Test.YtpndhildmfmcgaaDiskP
namespace Go.Proofs.Ytpndhildmfmcgaa
open Go Go.RowKit Coup

theorem _root_.Coup.OwnG.own {w w' : World} {base e sz g o m c base' e' sz' k : Nat} {v : Value} {xs ys : List Value} (h : OwnG w base e sz g o m c xs) (ho : ownsAt w base' e' sz' v k ys) (hg : w.grownBy w' v.ownBlock) (hk : g < base') : OwnG w' base e sz g o m c xs :=
  h.kpd (Kp.of_grown hg) fun hm => by
    simp only [Option.mem_toList] at hm
    have := (ho.lt g hm).1
    omega
theorem splice_one (l : List Value) (i : Nat) (v : Value) (h : i < l.length) : splice l i [v] = l.set i v := by
  refine List.ext_getElem? fun j => ?_
  rw [splice_get (by simp only [List.length_singleton]; omega), List.getElem?_set]
  by_cases h1 : i = j
  · subst h1
    rw [if_neg (Nat.lt_irrefl _), if_pos (by simp), if_pos rfl, if_pos h]
    simp
  · rw [if_neg h1]
    by_cases h2 : j < i
    · rw [if_pos h2]
    · rw [if_neg h2, if_neg (by simp; omega)]
theorem rf_set {w w' : World} {g pv : Nat} {G : List Nat} {D : Dk} {ov cv : Nat} {vs : List Value} (h : RfM w g pv G D ov cv vs) (k : Kp [pv] w w') {i : Nat} {v : List Sec} {b o c : Nat} (hi : i < D.V.length)
    (hown : OwnG w' 0 52 1 pv ov D.V.length cv (vs.set i (.slice (some ⟨b, o, none⟩) v.length c))) (hsl : SlAt w' (some ⟨b, o, none⟩) v.length 128 (bv v.flatten)) (hb : b ≠ g ∧ b ≠ pv) (hb' : b < w'.heap.size)
    (h1 : v ≠ []) (h2 : secsOk v) (h3 : v.length ≤ 100000) : RfM w' g pv (b :: G) (setV D i v) ov cv (vs.set i (.slice (some ⟨b, o, none⟩) v.length c)) := by
  have hV : (setV D i v).V.length = D.V.length := List.length_set ..
  have lg := h.row.lt
  have lp := h.own.lt
  have hG : ∀ x ∈ G, x ∉ [pv] := fun x hx => by simpa using (h.ne.2 x hx).2
  refine ⟨by rw [hV]; exact h.row.kpd k (by simpa using h.ne.1), by rw [hV]; exact hown, ?_, fun x hx => ?_, ⟨h.ne.1, fun x hx => ?_⟩, h.left, setV_ok h.ok h1 h2 h3, by rw [hV]; exact h.pos⟩
  · exact ((h.vs.kpd k hG).weak (G' := b :: G) fun x hx => List.mem_cons_of_mem _ hx).set hi hsl fun x o' e => by cases e; simp
  · rcases List.mem_cons.1 hx with rfl | hx
    · exact hb'
    · exact Nat.lt_of_lt_of_le (h.inG x hx) k.size
  · rcases List.mem_cons.1 hx with rfl | hx
    · exact hb
    · exact h.ne.2 x hx
set_option maxRecDepth 8000 in
set_option maxHeartbeats 1000000 in
theorem rwrite32 {w : World} {g pv : Nat} {G : List Nat} {D : Dk} {ov cv : Nat} {vs : List Value} (h : RfM w g pv G D ov cv vs) (i : Nat) (s : Sec) (hi : i < D.V.length) (hs : s.length = 128) (hsh : (ver D i).length < 100000) :
    Calls Try.prog 32 [.pointer (some ⟨g, 0, none⟩), .int .i64 (i : Int), .agg (bv s).toArray].toArray w
      (Ret fun v w' => v = .bool (stepOk D) ∧ (∃ G' vs', RfM w' g pv G' (writeD D i s) ov cv vs' ∧ ∀ b ∈ G', b ∈ G ∨ w.heap.size ≤ b) ∧ Kp [g, pv] w w') := by
  have hml : maxLen = 9223372036854775807 := by decide
  have hK := KpB.refl [g, pv] w
  have hsl128 : (bv s).length = 128 := by rw [bv_length]; exact hs
  obtain ⟨D1, hD1⟩ : ∃ D1, stepD D = D1 := ⟨_, rfl⟩
  obtain ⟨ok, hok⟩ : ∃ ok, stepOk D = ok := ⟨_, rfl⟩
  have hV1 : D1.V = D.V := by rw [← hD1]; exact stepD_V D
  have hver : ver D1 i = ver D i := by unfold ver; rw [hV1]
  rw [writeD, hD1, hok, ← hver]
  rw [← hver] at hsh
  have hlg := h.row.lt
  refine calls_W (fn := Try.f32) (rs := [.tmp 6]) (n := 27) Try.func32 rfl rfl Try.ntmps32 (by kernel_rfl) rfl ?_
  refine W_seq ?_
  refine W_region ?_
  refine WR_mk rfl (mk_box ((bv s)) rfl (fun g5 w5 hg5 hr5 hb5 => ?_))
  replace hK := hK.new hb5
  have h5 := h.new hb5
  have hst := rstep46 h5
  rw [hD1, hok] at hst
  refine WR_val rfl (rn_assign) ?_
  refine WR_nil ?_
  refine thenN ?_
  refine W_seq ?_
  refine W_seq ?_
  refine W_region ?_
  refine WR_val rfl (rn_move) ?_
  refine WR_ent rfl (rn_call (by kernel_rfl) rfl) (hst) ?_
  rintro _ w8 ⟨rfl, h1, hb8⟩
  replace hK := hK.only hb8 (by simp)
  replace hr5 := hr5.only hb8 (by omega)
  refine WR_val rfl (rn_not rfl) ?_
  refine WR_nil ?_
  refine thenN ?_
  refine W_ifnb rfl (fun hne => ?_) (fun hne => ?_)
  ·
    refine W_seq ?_
    refine W_region ?_
    refine WR_val rfl (rn_assign) ?_
    refine WR_nil ?_
    refine thenN ?_
    refine W_ret ?_
    refine thenR ?_
    refine ret_ret [_] ⟨rfl, trivial⟩ ?_
    have hk0 : ok = false := by cases ok with | false => rfl | true => simp at hne
    refine ⟨by rw [hk0]; rfl, ⟨G, vs, by rw [hk0]; exact h1, fun b hb => .inl hb⟩, hK.k⟩
  ·
    have hk1 : ok = true := by cases ok with | true => rfl | false => simp at hne
    rw [hk1, if_pos rfl]
    have hi1 : i < D1.V.length := by rw [hV1]; exact hi
    have hr := h1.row
    have hown := h1.own
    have hv := ver_ok h1.ok hi1
    have hn8 := h1.ok.n
    have hvp := List.length_pos_iff.2 hv.1
    have hobt := h1.vs.2 i _ (ver_at hi1)
    obtain ⟨p, c, hvi, hsl, hG⟩ := hobt
    have hobt := hsl.some (by omega)
    obtain ⟨gp, op, rfl, hgp⟩ := hobt
    have hGp := hG gp op rfl
    have hne1 := (h1.ne.2 gp hGp)
    have hgG := h.inG gp hGp
    have hlp := h.own.lt
    have hne0 := h1.ne.1
    have hfl : (ver D1 i).flatten ++ s = (ver D1 i ++ [s]).flatten := by simp
    have hso : secsOk (ver D1 i ++ [s]) := fun x hx => by
      rcases List.mem_append.1 hx with hx | hx
      · exact hv.2.1 x hx
      · rw [List.mem_singleton.1 hx]; exact hs
    have hvln : (ver D1 i ++ [s]).length = (ver D1 i).length + 1 := by simp
    have hX0 := h1
    have hKx := KpB.refl [pv] w8
    have hK8 := hK
    have hO8 := hb8
    refine W_skip ?_
    refine thenN ?_
    refine W_seq ?_
    refine W_draw' [pv] (by kernel_rfl) ?_
    intro w901 hb901 hS901
    replace hK := hK.new hb901
    replace hr5 := hr5.new hb901
    replace hr := hr.new hb901
    replace hown := hown.new hb901
    replace hsl := hsl.new hb901
    replace hKx := hKx.new hb901
    have hK_d901 := hK
    have hr5_d901 := hr5
    have hr_d901 := hr
    have hown_d901 := hown
    have hsl_d901 := hsl
    have hKx_d901 := hKx
    refine WA_take 0 (by kernel_rfl) rfl (fun _ _ => rn_move) ?_
    refine WA_take 1 (by kernel_rfl) rfl (fun _ _ => rn_nilCheckP rfl) ?_
    refine WA_take 2 (by kernel_rfl) rfl (fun _ _ => rn_fieldAddr (off := 0) (by kernel_rfl) rfl) ?_
    refine WA_take 3 (by kernel_rfl) rfl (fun w' hS' => rn_load rfl (Ld.row1 (hr_d901.kpd hS' (by first | (simp; done) | (simp; omega) | (simp [*]; done) | exact notLL (Or.inl (by omega)) | exact notLL (Or.inr (by simp)) | exact fun g hm => Nat.le_trans (by omega) (inLL hm).1 | (intro b o e; cases e; exact notLL (Or.inl (by omega))))) (by kernel_rfl) rfl)) ?_
    refine WA_take 4 (by kernel_rfl) rfl (fun _ _ => rn_move) ?_
    refine WA_take 5 (by kernel_rfl) rfl (fun _ _ => rn_move) ?_
    refine WA_take 6 (by kernel_rfl) rfl (fun _ _ => rn_nilCheckP rfl) ?_
    refine WA_take 7 (by kernel_rfl) rfl (fun _ _ => rn_fieldAddr (off := 0) (by kernel_rfl) rfl) ?_
    refine WA_take 8 (by kernel_rfl) rfl (fun w' hS' => rn_load rfl (Ld.row1 (hr_d901.kpd hS' (by first | (simp; done) | (simp; omega) | (simp [*]; done) | exact notLL (Or.inl (by omega)) | exact notLL (Or.inr (by simp)) | exact fun g hm => Nat.le_trans (by omega) (inLL hm).1 | (intro b o e; cases e; exact notLL (Or.inl (by omega))))) (by kernel_rfl) rfl)) ?_
    refine WA_take 9 (by kernel_rfl) rfl (fun _ _ => rn_move) ?_
    refine WA_take 10 (by kernel_rfl) rfl (fun _ _ => rn_indexSl1 (e := 52) (by kernel_rfl) rfl rfl (i) (by omega) (by omega)) ?_
    refine WA_take 13 (by kernel_rfl) rfl (fun w' hS' => rn_load rfl (Ld.rowA (k := 128) (hr5_d901.kpd hS' (by first | (simp; done) | (simp; omega) | (simp [*]; done) | exact notLL (Or.inl (by omega)) | exact notLL (Or.inr (by simp)) | exact fun g hm => Nat.le_trans (by omega) (inLL hm).1 | (intro b o e; cases e; exact notLL (Or.inl (by omega))))) (by kernel_rfl) (by kernel_rfl) (by first | (simp; done) | (simp [bv_length, *]; done) | assumption))) ?_
    refine WA_two 11 14 (by kernel_rfl) ?_ ?_
    ·
      refine WO_val rfl rfl (rn_load rfl (Ld.sl1 hown.sl (by kernel_rfl) hvi)) hS901 ?_
      refine WA_two 12 14 (by kernel_rfl) ?_ ?_
      ·
        have q1 := hK.k.size
        have q2 := hKx.k.size
        have q3 := hr.lt
        have q4 := hown.lt
        have q5 := hS901.size
        have q6 := hown.len
        refine WO_mk rfl rfl (mk_append (e := 34) (sz := 128) (bytes := 128) (z := .agg (List.replicate 128 (Value.int .u8 0)).toArray) (by kernel_rfl) rfl (by kernel_rfl) rfl (by decide) rfl (ownsAt_nil w901 w901.heap.size 34 128) rfl hsl (bv_one _) (by unfold maxLen; omega) (by omega) (fun _ => Nat.le_refl _) (fun v22 w22 hv22 hgr22 hfr22 => ?_))
        have hb22 := below_of_nil hgr22
        have hS903 := hS901.add0 hb22
        refine ⟨hS903, ?_⟩
        replace hK := hK.new hb22
        replace hr5 := hr5.new hb22
        replace hr := hr.new hb22
        replace hown := hown.new hb22
        replace hsl := hsl.new hb22
        replace hKx := hKx.new hb22
        refine WA_one 14 (by kernel_rfl) ?_
        refine WO_mk rfl rfl (mk_one (e := 34) (.agg (bv s).toArray) (bv s) (List.replicate 128 (Value.int .u8 0)) 128 (by kernel_rfl) (by kernel_rfl) rfl rfl (by first | rfl | (simp; done) | (simp [bv_length, *]; done)) ⟨by decide, by decide⟩ (fun g24 w24 hg24 hr24 hb24 => ?_))
        have hS904 := hS903.add0 hb24
        refine ⟨hS904, ?_⟩
        have ge_hS903_g24 := Nat.le_trans hS903.size hg24
        have lt_g5_g24 : g5 < g24 := Nat.lt_of_lt_of_le hr5.lt hg24
        have lt_g_g24 : g < g24 := Nat.lt_of_lt_of_le hr.lt hg24
        have lt_pv_g24 : pv < g24 := Nat.lt_of_lt_of_le hown.lt hg24
        replace hK := hK.new hb24
        replace hr5 := hr5.new hb24
        replace hr := hr.new hb24
        replace hown := hown.new hb24
        replace hsl := hsl.new hb24
        replace hKx := hKx.new hb24
        replace hv22 := hv22.new hb24
        refine WA_one 15 (by kernel_rfl) ?_
        have hs24 := hr24.slA (m := 1) (sz := 128) hsl128 (by omega)
        refine WO_mk rfl rfl (mk_append (e := 34) (sz := 128) (bytes := 128) (z := .agg (List.replicate 128 (Value.int .u8 0)).toArray) (by kernel_rfl) rfl (by kernel_rfl) rfl (by decide) rfl hv22 rfl hs24 (bv_one _) (by unfold maxLen; omega) (by omega) (fun hm0 => by omega) (fun v25 w25 hv25 hgr25 hfr25 => ?_))
        have hS905 := hS904.add (Kp.of_grown hgr25) (fun g hm => by first | exact Or.inr hm | exact Or.inr (List.mem_cons_of_mem _ hm) | (have := (hv22.lt g (Option.mem_toList.1 hm)).1; left; omega) | exact (hfr22 g (Option.mem_toList.1 hm)).elim (fun e => Or.inr (Option.mem_toList.2 e)) (fun e => Or.inl (by omega)))
        refine ⟨hS905, ?_⟩
        replace hK := hK.own hv22 hgr25 (by omega)
        replace hr := hr.own hv22 hgr25 (by omega)
        replace hown := hown.own hv22 hgr25 (by omega)
        replace hKx := hKx.own hv22 hgr25 (by omega)
        have hobt := hv25.form' (by omega)
        obtain ⟨gn, on, cn, rfl, hgn, hln, hcn⟩ := hobt
        have hsn := hv25.sl
        rw [List.nil_append, ← bv_append, hfl, Nat.zero_add, ← hvln] at hsn
        refine WA_take 16 (by kernel_rfl) rfl (fun _ _ => rn_indexSl1 (e := 52) (by kernel_rfl) rfl rfl (i) (by omega) (by omega)) ?_
        refine WA_one 17 (by kernel_rfl) ?_
        refine WO_sk rfl rfl (sk_storeO ([.slice (some ⟨gn, on, none⟩) (0 + (ver D1 i).length + 1) cn]) (i) hown rfl rfl (by kernel_rfl) (by first | (simp only [iv_length, List.length_cons, List.length_nil]; omega) | omega | (simp; omega)) (by simp [Value.oneCell']) (fun w907 hown ho907 => ?_))
        have hS906 := hS905.add1 ho907 (by first | (left; omega) | (right; simp; done) | (right; simp; omega))
        refine ⟨hS906, ?_⟩
        replace hK := hK.only ho907 (by simp)
        replace hr := hr.only ho907 (by omega)
        replace hKx := hKx.only ho907 (by simp)
        refine WA_done (by kernel_rfl) ?_
        refine thenN ?_
        refine W_seq ?_
        refine W_region ?_
        refine WR_val rfl (rn_assign) ?_
        refine WR_nil ?_
        refine thenN ?_
        refine W_ret ?_
        refine ret_ret [_] ⟨rfl, trivial⟩ ?_
        rw [Nat.zero_add, ← hvln, splice_one _ _ _ (by rw [h1.vs.1]; exact hi1)] at hown
        have hx := rf_set (v := ver D1 i ++ [s]) hX0 hKx.k hi1 hown (hsn.only ho907 (by omega)) ⟨by omega, by omega⟩ (by have := (Kp.of_only ho907).size; omega) (by simp) hso (by rw [hvln]; omega)
        refine ⟨rfl, ⟨_, _, hx, fun b hb => ?_⟩, hK.k⟩
        rcases List.mem_cons.1 hb with rfl | hb
        · right; omega
        · exact .inl hb
      ·
        refine WO_mk rfl rfl (mk_one (e := 34) (.agg (bv s).toArray) (bv s) (List.replicate 128 (Value.int .u8 0)) 128 (by kernel_rfl) (by kernel_rfl) rfl rfl (by first | rfl | (simp; done) | (simp [bv_length, *]; done)) ⟨by decide, by decide⟩ (fun g24 w24 hg24 hr24 hb24 => ?_))
        have hS908 := hS901.add0 hb24
        refine ⟨hS908, ?_⟩
        have ge_hS901_g24 := Nat.le_trans hS901.size hg24
        have lt_g5_g24 : g5 < g24 := Nat.lt_of_lt_of_le hr5.lt hg24
        have lt_g_g24 : g < g24 := Nat.lt_of_lt_of_le hr.lt hg24
        have lt_pv_g24 : pv < g24 := Nat.lt_of_lt_of_le hown.lt hg24
        replace hK := hK.new hb24
        replace hr5 := hr5.new hb24
        replace hr := hr.new hb24
        replace hown := hown.new hb24
        replace hsl := hsl.new hb24
        replace hKx := hKx.new hb24
        refine WA_one 12 (by kernel_rfl) ?_
        have q1 := hK.k.size
        have q2 := hKx.k.size
        have q3 := hr.lt
        have q4 := hown.lt
        have q5 := hS908.size
        have q6 := hown.len
        refine WO_mk rfl rfl (mk_append (e := 34) (sz := 128) (bytes := 128) (z := .agg (List.replicate 128 (Value.int .u8 0)).toArray) (by kernel_rfl) rfl (by kernel_rfl) rfl (by decide) rfl (ownsAt_nil w24 w24.heap.size 34 128) rfl hsl (bv_one _) (by unfold maxLen; omega) (by omega) (fun _ => Nat.le_refl _) (fun v22 w22 hv22 hgr22 hfr22 => ?_))
        have hb22 := below_of_nil hgr22
        have hS909 := hS908.add0 hb22
        refine ⟨hS909, ?_⟩
        replace hK := hK.new hb22
        replace hr5 := hr5.new hb22
        replace hr := hr.new hb22
        replace hown := hown.new hb22
        replace hsl := hsl.new hb22
        replace hKx := hKx.new hb22
        replace hr24 := hr24.new hb22
        refine WA_one 15 (by kernel_rfl) ?_
        have hs24 := hr24.slA (m := 1) (sz := 128) hsl128 (by omega)
        refine WO_mk rfl rfl (mk_append (e := 34) (sz := 128) (bytes := 128) (z := .agg (List.replicate 128 (Value.int .u8 0)).toArray) (by kernel_rfl) rfl (by kernel_rfl) rfl (by decide) rfl hv22 rfl hs24 (bv_one _) (by unfold maxLen; omega) (by omega) (fun hm0 => by omega) (fun v25 w25 hv25 hgr25 hfr25 => ?_))
        have hS910 := hS909.add (Kp.of_grown hgr25) (fun g hm => by first | exact Or.inr hm | exact Or.inr (List.mem_cons_of_mem _ hm) | (have := (hv22.lt g (Option.mem_toList.1 hm)).1; left; omega) | exact (hfr22 g (Option.mem_toList.1 hm)).elim (fun e => Or.inr (Option.mem_toList.2 e)) (fun e => Or.inl (by omega)))
        refine ⟨hS910, ?_⟩
        replace hK := hK.own hv22 hgr25 (by omega)
        replace hr := hr.own hv22 hgr25 (by omega)
        replace hown := hown.own hv22 hgr25 (by omega)
        replace hKx := hKx.own hv22 hgr25 (by omega)
        have hobt := hv25.form' (by omega)
        obtain ⟨gn, on, cn, rfl, hgn, hln, hcn⟩ := hobt
        have hsn := hv25.sl
        rw [List.nil_append, ← bv_append, hfl, Nat.zero_add, ← hvln] at hsn
        refine WA_take 16 (by kernel_rfl) rfl (fun _ _ => rn_indexSl1 (e := 52) (by kernel_rfl) rfl rfl (i) (by omega) (by omega)) ?_
        refine WA_one 17 (by kernel_rfl) ?_
        refine WO_sk rfl rfl (sk_storeO ([.slice (some ⟨gn, on, none⟩) (0 + (ver D1 i).length + 1) cn]) (i) hown rfl rfl (by kernel_rfl) (by first | (simp only [iv_length, List.length_cons, List.length_nil]; omega) | omega | (simp; omega)) (by simp [Value.oneCell']) (fun w912 hown ho912 => ?_))
        have hS911 := hS910.add1 ho912 (by first | (left; omega) | (right; simp; done) | (right; simp; omega))
        refine ⟨hS911, ?_⟩
        replace hK := hK.only ho912 (by simp)
        replace hr := hr.only ho912 (by omega)
        replace hKx := hKx.only ho912 (by simp)
        refine WA_done (by kernel_rfl) ?_
        refine thenN ?_
        refine W_seq ?_
        refine W_region ?_
        refine WR_val rfl (rn_assign) ?_
        refine WR_nil ?_
        refine thenN ?_
        refine W_ret ?_
        refine ret_ret [_] ⟨rfl, trivial⟩ ?_
        rw [Nat.zero_add, ← hvln, splice_one _ _ _ (by rw [h1.vs.1]; exact hi1)] at hown
        have hx := rf_set (v := ver D1 i ++ [s]) hX0 hKx.k hi1 hown (hsn.only ho912 (by omega)) ⟨by omega, by omega⟩ (by have := (Kp.of_only ho912).size; omega) (by simp) hso (by rw [hvln]; omega)
        refine ⟨rfl, ⟨_, _, hx, fun b hb => ?_⟩, hK.k⟩
        rcases List.mem_cons.1 hb with rfl | hb
        · right; omega
        · exact .inl hb
    ·
      refine WO_mk rfl rfl (mk_one (e := 34) (.agg (bv s).toArray) (bv s) (List.replicate 128 (Value.int .u8 0)) 128 (by kernel_rfl) (by kernel_rfl) rfl rfl (by first | rfl | (simp; done) | (simp [bv_length, *]; done)) ⟨by decide, by decide⟩ (fun g24 w24 hg24 hr24 hb24 => ?_))
      have hS913 := hS901.add0 hb24
      refine ⟨hS913, ?_⟩
      have ge_hS901_g24 := Nat.le_trans hS901.size hg24
      have lt_g5_g24 : g5 < g24 := Nat.lt_of_lt_of_le hr5.lt hg24
      have lt_g_g24 : g < g24 := Nat.lt_of_lt_of_le hr.lt hg24
      have lt_pv_g24 : pv < g24 := Nat.lt_of_lt_of_le hown.lt hg24
      replace hK := hK.new hb24
      replace hr5 := hr5.new hb24
      replace hr := hr.new hb24
      replace hown := hown.new hb24
      replace hsl := hsl.new hb24
      replace hKx := hKx.new hb24
      refine WA_one 11 (by kernel_rfl) ?_
      refine WO_val rfl rfl (rn_load rfl (Ld.sl1 hown.sl (by kernel_rfl) hvi)) hS913 ?_
      refine WA_one 12 (by kernel_rfl) ?_
      have q1 := hK.k.size
      have q2 := hKx.k.size
      have q3 := hr.lt
      have q4 := hown.lt
      have q5 := hS913.size
      have q6 := hown.len
      refine WO_mk rfl rfl (mk_append (e := 34) (sz := 128) (bytes := 128) (z := .agg (List.replicate 128 (Value.int .u8 0)).toArray) (by kernel_rfl) rfl (by kernel_rfl) rfl (by decide) rfl (ownsAt_nil w24 w24.heap.size 34 128) rfl hsl (bv_one _) (by unfold maxLen; omega) (by omega) (fun _ => Nat.le_refl _) (fun v22 w22 hv22 hgr22 hfr22 => ?_))
      have hb22 := below_of_nil hgr22
      have hS915 := hS913.add0 hb22
      refine ⟨hS915, ?_⟩
      replace hK := hK.new hb22
      replace hr5 := hr5.new hb22
      replace hr := hr.new hb22
      replace hown := hown.new hb22
      replace hsl := hsl.new hb22
      replace hKx := hKx.new hb22
      replace hr24 := hr24.new hb22
      refine WA_one 15 (by kernel_rfl) ?_
      have hs24 := hr24.slA (m := 1) (sz := 128) hsl128 (by omega)
      refine WO_mk rfl rfl (mk_append (e := 34) (sz := 128) (bytes := 128) (z := .agg (List.replicate 128 (Value.int .u8 0)).toArray) (by kernel_rfl) rfl (by kernel_rfl) rfl (by decide) rfl hv22 rfl hs24 (bv_one _) (by unfold maxLen; omega) (by omega) (fun hm0 => by omega) (fun v25 w25 hv25 hgr25 hfr25 => ?_))
      have hS916 := hS915.add (Kp.of_grown hgr25) (fun g hm => by first | exact Or.inr hm | exact Or.inr (List.mem_cons_of_mem _ hm) | (have := (hv22.lt g (Option.mem_toList.1 hm)).1; left; omega) | exact (hfr22 g (Option.mem_toList.1 hm)).elim (fun e => Or.inr (Option.mem_toList.2 e)) (fun e => Or.inl (by omega)))
      refine ⟨hS916, ?_⟩
      replace hK := hK.own hv22 hgr25 (by omega)
      replace hr := hr.own hv22 hgr25 (by omega)
      replace hown := hown.own hv22 hgr25 (by omega)
      replace hKx := hKx.own hv22 hgr25 (by omega)
      have hobt := hv25.form' (by omega)
      obtain ⟨gn, on, cn, rfl, hgn, hln, hcn⟩ := hobt
      have hsn := hv25.sl
      rw [List.nil_append, ← bv_append, hfl, Nat.zero_add, ← hvln] at hsn
      refine WA_take 16 (by kernel_rfl) rfl (fun _ _ => rn_indexSl1 (e := 52) (by kernel_rfl) rfl rfl (i) (by omega) (by omega)) ?_
      refine WA_one 17 (by kernel_rfl) ?_
      refine WO_sk rfl rfl (sk_storeO ([.slice (some ⟨gn, on, none⟩) (0 + (ver D1 i).length + 1) cn]) (i) hown rfl rfl (by kernel_rfl) (by first | (simp only [iv_length, List.length_cons, List.length_nil]; omega) | omega | (simp; omega)) (by simp [Value.oneCell']) (fun w918 hown ho918 => ?_))
      have hS917 := hS916.add1 ho918 (by first | (left; omega) | (right; simp; done) | (right; simp; omega))
      refine ⟨hS917, ?_⟩
      replace hK := hK.only ho918 (by simp)
      replace hr := hr.only ho918 (by omega)
      replace hKx := hKx.only ho918 (by simp)
      refine WA_done (by kernel_rfl) ?_
      refine thenN ?_
      refine W_seq ?_
      refine W_region ?_
      refine WR_val rfl (rn_assign) ?_
      refine WR_nil ?_
      refine thenN ?_
      refine W_ret ?_
      refine ret_ret [_] ⟨rfl, trivial⟩ ?_
      rw [Nat.zero_add, ← hvln, splice_one _ _ _ (by rw [h1.vs.1]; exact hi1)] at hown
      have hx := rf_set (v := ver D1 i ++ [s]) hX0 hKx.k hi1 hown (hsn.only ho918 (by omega)) ⟨by omega, by omega⟩ (by have := (Kp.of_only ho918).size; omega) (by simp) hso (by rw [hvln]; omega)
      refine ⟨rfl, ⟨_, _, hx, fun b hb => ?_⟩, hK.k⟩
      rcases List.mem_cons.1 hb with rfl | hb
      · right; omega
      · exact .inl hb
end Go.Proofs.Ytpndhildmfmcgaa
