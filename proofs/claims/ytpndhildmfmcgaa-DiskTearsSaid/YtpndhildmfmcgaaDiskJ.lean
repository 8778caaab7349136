/- A torn sector; the document's disk in memory; one made. -/
import Derived.Test.YtpndhildmfmcgaaDiskI
namespace Go.Proofs.Ytpndhildmfmcgaa
open Go Go.RowKit Coup

def mixT (a b : Sec) (i : Nat) : Sec := (List.range 128).map fun j => if 64 ≤ j ∧ j < i then b.getD j 0 else a.getD j 0
theorem mixT_get (a b : Sec) (i j : Nat) : (mixT a b i)[j]? = if j < 128 then some (if 64 ≤ j ∧ j < i then b.getD j 0 else a.getD j 0) else none := by
  rw [mixT, List.getElem?_map]
  by_cases h : j < 128
  · rw [List.getElem?_range h, if_pos h]; rfl
  · rw [List.getElem?_eq_none (by rw [List.length_range]; omega), if_neg h]; rfl
theorem mixT_len (a b : Sec) (i : Nat) : (mixT a b i).length = 128 := by simp [mixT]
theorem getD_some {a : Sec} {j : Nat} (h : j < a.length) : a[j]? = some (a.getD j 0) := by
  rw [List.getD_eq_getElem?_getD, List.getElem?_eq_getElem h]; rfl
theorem mixT_start {a b : Sec} (ha : a.length = 128) : mixT a b 64 = a := by
  refine List.ext_getElem? fun j => ?_
  rw [mixT_get]
  by_cases h : j < 128
  · rw [if_pos h, if_neg (by omega), getD_some (by omega)]
  · rw [if_neg h, List.getElem?_eq_none (by omega)]
theorem mixT_end {a b : Sec} (ha : a.length = 128) (hb : b.length = 128) : mixT a b 128 = tornS a b := by
  refine List.ext_getElem? fun j => ?_
  rw [mixT_get, tornS, List.getElem?_append, List.length_take, ha, List.getElem?_take, List.getElem?_drop]
  by_cases h : j < 128
  · by_cases h2 : 64 ≤ j
    · rw [if_pos h, if_pos ⟨h2, h⟩, if_neg (by omega), show 64 + (j - min 64 128) = j by omega, getD_some (by omega)]
    · rw [if_pos h, if_neg (by omega), if_pos (by omega), if_pos (by omega), getD_some (by omega)]
  · rw [if_neg h, if_neg (by omega), List.getElem?_eq_none (by omega)]
theorem mixT_step {a b : Sec} {i : Nat} (h1 : 64 ≤ i) (h2 : i < 128) : (mixT a b i).set i (b.getD i 0) = mixT a b (i + 1) := by
  refine List.ext_getElem? fun j => ?_
  rw [List.getElem?_set, mixT_len, mixT_get, mixT_get]
  by_cases h : i = j
  · subst h
    rw [if_pos rfl, if_pos h2, if_pos h2, if_pos (by omega)]
  · rw [if_neg h]
    by_cases h3 : j < 128
    · rw [if_pos h3, if_pos h3]
      congr 1
      by_cases h4 : 64 ≤ j ∧ j < i
      · rw [if_pos h4, if_pos (by omega)]
      · rw [if_neg h4, if_neg (by omega)]
    · rw [if_neg h3, if_neg h3]
set_option maxRecDepth 8000 in
theorem torn24 (a b : Sec) (w : World) (ha : a.length = 128) (hb : b.length = 128) : Calls Try.prog 24 [.agg (bv a).toArray, .agg (bv b).toArray].toArray w (Ret fun v w' => v = .agg (bv (tornS a b)).toArray ∧ Below w.heap.size w w') := by
  have hB := Below.refl w.heap.size w
  obtain ⟨Z, hzz, hzb, hzl⟩ := zeroSQ
  have hal : (bv a).length = 128 := by rw [bv_length]; exact ha
  have hbl : (bv b).length = 128 := by rw [bv_length]; exact hb
  have hst := mixT_start (b := b) ha
  refine calls_W (fn := Try.f24) (rs := [.cell 4 34]) (n := 16) Try.func24 rfl rfl Try.ntmps24 (by kernel_rfl) rfl ?_
  refine W_seq ?_
  refine W_region ?_
  refine WR_mk rfl (mk_box ((bv a)) rfl (fun g2 w2 hg2 hr2 hb2 => ?_))
  have ge_hB_g2 := Nat.le_trans hB.size hg2
  replace hB := hB.acc hb2
  refine WR_mk rfl (mk_box ((bv b)) rfl (fun g3 w3 hg3 hr3 hb3 => ?_))
  have ge_hB_g3 := Nat.le_trans hB.size hg3
  have lt_g2_g3 : g2 < g3 := Nat.lt_of_lt_of_le hr2.lt hg3
  replace hr2 := hr2.new hb3
  replace hB := hB.acc hb3
  refine WR_mk rfl (mk_alloc (List.replicate 128 (Value.int .u8 0)) (by kernel_rfl) (fun g4 w4 hg4 hr4 hb4 => ?_))
  have ge_hB_g4 := Nat.le_trans hB.size hg4
  have lt_g2_g4 : g2 < g4 := Nat.lt_of_lt_of_le hr2.lt hg4
  have lt_g3_g4 : g3 < g4 := Nat.lt_of_lt_of_le hr3.lt hg4
  replace hr2 := hr2.new hb4
  replace hr3 := hr3.new hb4
  replace hB := hB.acc hb4
  rw [hzb] at hr4
  refine WR_nil ?_
  refine thenN ?_
  refine W_seq ?_
  refine W_seq ?_
  refine W_region ?_
  refine WR_val rfl (rn_assign) ?_
  refine WR_nil ?_
  refine thenN ?_
  refine W_block ?_
  rw [← hst] at hr2
  refine W_loop (α := Nat) 64 (fun i => [(5, .int .i64 (i : Nat)), (2, .pointer (some ⟨g2, 0, none⟩)), (3, .pointer (some ⟨g3, 0, none⟩)), (4, .pointer (some ⟨g4, 0, none⟩))])
    (fun i w' => 64 ≤ i ∧ i ≤ 128 ∧ row w' g2 (bv (mixT a b i)) 34 ∧ row w' g3 (bv b) 34 ∧ row w' g4 (bv Z) 34 ∧ Below w.heap.size w w') (fun i => 128 - i)
    ⟨rfl, rfl, rfl, rfl, rfl⟩ ⟨Nat.le_refl _, by omega, hr2, hr3, hr4, hB⟩ ?_
  clear hr2 hr3 hr4 hB
  rintro i f wr ⟨hi0, hi, hr2, hr3, hr4, hB⟩
  have hobt : ∃ L, mixT a b i = L := ⟨_, rfl⟩
  obtain ⟨L, hL⟩ := hobt
  have hLl : L.length = 128 := by rw [← hL]; exact mixT_len _ _ _
  have hll : (bv L).length = 128 := by rw [bv_length]; exact hLl
  rw [hL] at hr2
  refine W_seq ?_
  refine W_seq ?_
  refine W_region ?_
  refine WR_val rfl (rn_move) ?_
  refine WR_val rfl (rn_lss rfl rfl) ?_
  refine WR_nil ?_
  refine thenN ?_
  refine W_ifp rfl (fun hlt => ?_) (fun hlt => ?_)
  ·
    refine W_skip ?_
    refine thenN ?_
    refine W_seq ?_
    refine W_block ?_
    refine W_region ?_
    refine WR_val rfl (rn_move) ?_
    refine WR_val rfl (rn_move) ?_
    refine WR_val rfl (rn_indexAr1 (e := 5) (m := 128) (by kernel_rfl) rfl rfl (i) (by omega) (by omega)) ?_
    refine WR_val rfl (rn_load rfl (Ld.row1 hr3 (by kernel_rfl) (show (bv b)[0 + i]? = some (.int .u8 ((b.getD i 0).toNat : Int)) by rw [Nat.zero_add, bv, List.getElem?_map, getD_some (by omega)]; rfl))) ?_
    refine WR_val rfl (rn_indexAr1 (e := 5) (m := 128) (by kernel_rfl) rfl rfl (i) (by omega) (by omega)) ?_
    refine WR_sk rfl (sk_store1 rfl rfl rfl rfl hr2 (by kernel_rfl) (by first | (simp only [List.length_replicate]; omega) | (simp only [iv_length]; omega) | (simp only [bv_length, List.length_set]; omega) | simp) (fun w901 hr2 ho901 => ?_))
    replace hr3 := hr3.only ho901 (Nat.ne_of_gt lt_g2_g3)
    replace hr4 := hr4.only ho901 (Nat.ne_of_gt lt_g2_g4)
    replace hB := ho901.below hB ge_hB_g2
    have hq : row w901 g2 ((bv L).set i (.int .u8 ((b.getD i 0).toNat : Int))) 34 := by rw [Nat.zero_add] at hr2; exact hr2
    rw [bv_set, ← hL, mixT_step hi0 (by omega)] at hq
    refine WR_nil ?_
    refine blockN ?_
    refine thenN ?_
    refine W_region ?_
    refine WR_val rfl (rn_move) ?_
    refine WR_val rfl (rn_add rfl rfl (Coup.w64 (by omega))) ?_
    refine WR_val rfl (rn_assign) ?_
    refine WR_nil ?_
    refine loopN ⟨i + 1, by omega, ⟨by go_num, rfl, rfl, rfl, rfl⟩, by omega, by omega, hq, hr3, hr4, hB⟩
  ·
    obtain rfl : i = 128 := by omega
    rw [mixT_end ha hb] at hL
    rw [hL]
    refine W_exit ?_
    refine thenX ?_
    refine loopX ?_
    refine blockX ?_
    refine thenN ?_
    refine W_seq ?_
    refine W_region ?_
    refine WR_val rfl (rn_load rfl (Ld.rowA (k := 128) hr2 (by kernel_rfl) (by kernel_rfl) (by first | (simp; done) | (simp [bv_length, *]; done) | assumption))) ?_
    refine WR_sk rfl (sk_storeA 128 (bv L) rfl rfl hr4 (by kernel_rfl) (by first | assumption | (simp; done) | (simp [bv_length, *]; done)) (by first | assumption | (simp; done) | (simp [bv_length, *]; done) | rfl) (by first | exact bv_one _ | assumption | (simp [Value.oneCell']; done)) (fun w902 hr4 ho902 => ?_))
    replace hr2 := hr2.only ho902 (Nat.ne_of_lt lt_g2_g4)
    replace hr3 := hr3.only ho902 (Nat.ne_of_lt lt_g3_g4)
    replace hB := ho902.below hB ge_hB_g4
    refine WR_nil ?_
    refine thenN ?_
    refine W_ret ?_
    refine ret_ret [_] ⟨⟨_, rfl, Ld.rowA (k := 128) hr4 (by kernel_rfl) (by kernel_rfl) (by first | (simp; done) | (simp [bv_length, *]; done) | assumption)⟩, trivial⟩ ?_
    exact ⟨rfl, hB⟩
/-! ### The document's disk -/
/-- The versions of all sectors: each a slice of its own block in G. -/
def VsAt (w : World) (G : List Nat) (vs : List Value) (V : List (List Sec)) : Prop :=
  vs.length = V.length ∧ ∀ (i : Nat) (v : List Sec), V[i]? = some v → ∃ p c, vs[i]? = some (.slice p v.length c) ∧ SlAt w p v.length 128 (bv v.flatten) ∧ ∀ b o, p = some ⟨b, o, none⟩ → b ∈ G
theorem VsAt.kpd {w w' : World} {G M : List Nat} {vs : List Value} {V : List (List Sec)} (h : VsAt w G vs V) (k : Kp M w w') (hM : ∀ b ∈ G, b ∉ M) : VsAt w' G vs V :=
  ⟨h.1, fun i v hv => by
    obtain ⟨p, c, h1, h2, h3⟩ := h.2 i v hv
    exact ⟨p, c, h1, h2.kpd k fun b o e => hM b (h3 b o e), h3⟩⟩
theorem VsAt.weak {w : World} {G G' : List Nat} {vs : List Value} {V : List (List Sec)} (h : VsAt w G vs V) (hG : ∀ b ∈ G, b ∈ G') : VsAt w G' vs V :=
  ⟨h.1, fun i v hv => by
    obtain ⟨p, c, h1, h2, h3⟩ := h.2 i v hv
    exact ⟨p, c, h1, h2, fun b o e => hG b (h3 b o e)⟩⟩
theorem VsAt.push {w : World} {G : List Nat} {vs : List Value} {V : List (List Sec)} {v : List Sec} {p : Option Addr} {c : Nat} (h : VsAt w G vs V) (h2 : SlAt w p v.length 128 (bv v.flatten)) (h3 : ∀ b o, p = some ⟨b, o, none⟩ → b ∈ G) : VsAt w G (vs ++ [.slice p v.length c]) (V ++ [v]) := by
  refine ⟨by simp [h.1], fun i u hu => ?_⟩
  rw [List.getElem?_append] at hu ⊢
  rw [h.1]
  by_cases hi : i < V.length
  · rw [if_pos hi] at hu ⊢
    exact h.2 i u hu
  · rw [if_neg hi] at hu ⊢
    by_cases h0 : i - V.length = 0
    · rw [h0] at hu ⊢
      obtain rfl : v = u := by simpa using hu
      exact ⟨p, c, rfl, h2, h3⟩
    · rw [List.getElem?_eq_none (by simp; omega)] at hu; cases hu
theorem VsAt.set {w : World} {G : List Nat} {vs : List Value} {V : List (List Sec)} {i : Nat} {v : List Sec} {p : Option Addr} {c : Nat} (h : VsAt w G vs V) (hi : i < V.length) (h2 : SlAt w p v.length 128 (bv v.flatten)) (h3 : ∀ b o, p = some ⟨b, o, none⟩ → b ∈ G) : VsAt w G (vs.set i (.slice p v.length c)) (V.set i v) := by
  refine ⟨by simp [h.1], fun j u hu => ?_⟩
  rw [List.getElem?_set] at hu ⊢
  by_cases hij : i = j
  · subst hij
    rw [if_pos rfl, if_pos hi] at hu
    obtain rfl : v = u := by simpa using hu
    exact ⟨p, c, by rw [if_pos rfl, if_pos (by rw [h.1]; exact hi)], h2, h3⟩
  · rw [if_neg hij] at hu ⊢
    exact h.2 j u hu
structure RfM (w : World) (g pv : Nat) (G : List Nat) (D : Dk) (ov cv : Nat) (vs : List Value) : Prop where
  row : Coup.row w g [.slice (some ⟨pv, ov, none⟩) D.V.length cv, .int .i64 D.left, .bool D.dead] 58
  own : OwnG w 0 52 1 pv ov D.V.length cv vs
  vs : VsAt w G vs D.V
  inG : ∀ b ∈ G, b < w.heap.size
  ne : g ≠ pv ∧ ∀ b ∈ G, b ≠ g ∧ b ≠ pv
  left : -1 ≤ D.left ∧ D.left ≤ 9223372036854775807
  ok : DkOk D
  pos : 0 < D.V.length
/-- The document's disk at g; all its blocks are C. -/
def RfX (w : World) (g : Nat) (C : List Nat) (D : Dk) : Prop := ∃ pv G ov cv vs, C = [g, pv] ++ G ∧ RfM w g pv G D ov cv vs
theorem RfM.kpd {w w' : World} {g pv : Nat} {G M : List Nat} {D : Dk} {ov cv : Nat} {vs : List Value} (h : RfM w g pv G D ov cv vs) (k : Kp M w w') (hM : g ∉ M ∧ pv ∉ M ∧ ∀ b ∈ G, b ∉ M) : RfM w' g pv G D ov cv vs :=
  ⟨h.row.kpd k hM.1, h.own.kpd k hM.2.1, h.vs.kpd k hM.2.2, fun b hb => Nat.lt_of_lt_of_le (h.inG b hb) k.size, h.ne, h.left, h.ok, h.pos⟩
theorem RfM.new {w w' : World} {g pv : Nat} {G : List Nat} {D : Dk} {ov cv : Nat} {vs : List Value} (h : RfM w g pv G D ov cv vs) (hb : Below w.heap.size w w') : RfM w' g pv G D ov cv vs := h.kpd (M := []) (Kp.of_below hb) (by simp)
theorem RfX.kpd {w w' : World} {g : Nat} {C M : List Nat} {D : Dk} (h : RfX w g C D) (k : Kp M w w') (hM : ∀ b ∈ C, b ∉ M) : RfX w' g C D := by
  obtain ⟨pv, G, ov, cv, vs, rfl, h1⟩ := h
  exact ⟨pv, G, ov, cv, vs, rfl, h1.kpd k ⟨hM g (by simp), hM pv (by simp), fun b hb => hM b (by simp [hb])⟩⟩
theorem RfX.new {w w' : World} {g : Nat} {C : List Nat} {D : Dk} (h : RfX w g C D) (hb : Below w.heap.size w w') : RfX w' g C D := h.kpd (M := []) (Kp.of_below hb) (fun _ _ => by simp)
theorem RfX.lt {w : World} {g : Nat} {C : List Nat} {D : Dk} (h : RfX w g C D) : ∀ b ∈ C, b < w.heap.size := by
  obtain ⟨pv, G, ov, cv, vs, rfl, h1⟩ := h
  intro b hb
  simp only [List.cons_append, List.nil_append, List.mem_cons] at hb
  rcases hb with rfl | rfl | hb
  · exact h1.row.lt
  · exact h1.own.lt
  · exact h1.inG b hb
instance (g : Nat) (D : Dk) : Thing (fun w C => RfX w g C D) := ⟨RfX.kpd, RfX.lt⟩
end Go.Proofs.Ytpndhildmfmcgaa
