/- The reference's pages: with a record, and without one. -/
import Derived.Test.YtjdcopfnhkfimaaPageO
namespace Go.Proofs.Ytjdcopfnhkfimaa
open Go Go.RowKit Coup

namespace RsAt
variable {w w' : World} {o : List Nat} {fl : List Value} {S : List (Option (List UInt8))}
theorem one (h : RsAt w o fl S) : ∀ u ∈ fl, u.oneCell' = true := by
  intro u hu
  obtain ⟨j, hj⟩ := List.getElem?_of_mem hu
  have hl := h.len
  have hjl := (List.getElem?_eq_some_iff.1 hj).1
  obtain ⟨s, hs⟩ : ∃ s, S[j / 2]? = some s := ⟨_, List.getElem?_eq_getElem (by omega)⟩
  obtain ⟨h1, p, c, h2, _⟩ := h.at_ _ s hs
  rcases Nat.mod_two_eq_zero_or_one j with h3 | h3
  · rw [show j / 2 * 2 = j by omega, hj] at h1
    cases h1; rfl
  · rw [show j / 2 * 2 + 1 = j by omega, hj] at h2
    cases h2; rfl
theorem setR {q : Option Addr} {c i : Nat} {s : Option (List UInt8)} (h : RsAt w o fl S) (hi : i < S.length) (h1 : SlAt w q (bod s).length 1 (bv (bod s))) (h2 : 0 < (bod s).length → ∀ b off, q = some ⟨b, off, none⟩ → b < w.heap.size ∧ b ∉ o) :
    RsAt w o (splice fl (i * 2) [.bool s.isSome, .slice q (bod s).length c]) (S.set i s) := by
  have hl := h.len
  have hf : i * 2 + [Value.bool s.isSome, .slice q (bod s).length c].length ≤ fl.length := by simp; omega
  refine ⟨?_, fun j s' hs => ?_⟩
  · simp only [splice, List.length_append, List.length_take, List.length_drop, List.length_set, List.length_cons, List.length_nil]; omega
  · rw [splice_get hf, splice_get hf]
    simp only [List.length_cons, List.length_nil]
    rw [List.getElem?_set] at hs
    by_cases h3 : i = j
    · subst h3
      rw [if_pos rfl, if_pos hi] at hs
      cases hs
      rw [if_neg (by omega), if_pos (by omega), if_neg (by omega), if_pos (by omega), show i * 2 - i * 2 = 0 by omega, show i * 2 + 1 - i * 2 = 1 by omega]
      exact ⟨rfl, q, c, rfl, h1, h2⟩
    · rw [if_neg h3] at hs
      have h4 := h.at_ j s' hs
      rcases Nat.lt_or_ge j i with h5 | h5
      · rw [if_pos (by omega), if_pos (by omega)]; exact h4
      · rw [if_neg (by omega), if_neg (by omega), if_neg (by omega), if_neg (by omega)]; exact h4
theorem cutR {m : Nat} (h : RsAt w o fl S) (hm : m ≤ S.length) : RsAt w o (fl.take (m * 2)) (S.take m) := by
  have hl := h.len
  refine ⟨by rw [List.length_take, List.length_take]; omega, fun j s hs => ?_⟩
  rw [List.getElem?_take] at hs
  split at hs
  · rename_i h1
    rw [List.getElem?_take_of_lt (by omega), List.getElem?_take_of_lt (by omega)]
    exact h.at_ j s hs
  · cases hs
theorem snocN (h : RsAt w o fl S) : RsAt w o (fl ++ [.bool false, .slice none 0 0]) (S ++ [none]) :=
  h.snoc (s := none) (q := none) (c := 0) (SlAt.nil _ _ _) (fun h => by simp [bod] at h)
end RsAt
set_option maxHeartbeats 2000000 in
theorem rwith28 (V : View) (p pr : Option Addr) (c cr i : Nat) (fl : List Value) (r : List UInt8) (w : World) (o : List Nat) (h : SlAt w p V.slots.length 2 fl) (hs : RsAt w o fl V.slots) (hr : SlAt w pr r.length 1 (bv r)) (hro : 0 < r.length → ∀ b off, pr = some ⟨b, off, none⟩ → b ∉ o) (hi : i ≤ V.slots.length) (hn : V.slots.length ≤ 1000) :
    Calls Try.prog 28 [viewV V p V.slots.length c, .int .i64 (i : Int), .slice pr r.length cr].toArray w
      (Ret fun v w' => ∃ p' c' fl', v = viewV (withV V i r) p' (setS V.slots i r).length c' ∧ (∀ b off, p' = some ⟨b, off, none⟩ → w.heap.size ≤ b) ∧ SlAt w' p' (setS V.slots i r).length 2 fl' ∧ RsAt w' o fl' (setS V.slots i r) ∧ Below w.heap.size w w') := by
  have hB := Below.refl w.heap.size w
  have hml : maxLen = 9223372036854775807 := by decide
  have hone := hs.one
  obtain ⟨S, hS⟩ : ∃ S, V.slots = S := ⟨_, rfl⟩
  obtain ⟨n, hn1⟩ : ∃ n, S.length = n := ⟨_, rfl⟩
  rw [hS] at h hs hi hn ⊢
  rw [hn1] at h hi hn ⊢
  unfold viewV
  refine calls_W (fn := Try.f28) (rs := [.cell 6 57]) (n := 27) Try.func28 rfl rfl Try.ntmps28 (by kernel_rfl) rfl ?_
  refine W_seq ?_
  refine W_region ?_
  refine WR_mk rfl (mk_box ([_, _, _]) rfl (fun g3 w3 hg3 hr3 hb3 => ?_))
  have ge_hB_g3 := Nat.le_trans hB.size hg3
  replace hB := hB.acc hb3
  refine WR_mk rfl (mk_alloc ([Value.int .i64 0, Value.int .i64 0, Value.slice none 0 0]) (by kernel_rfl) (fun g6 w6 hg6 hr6 hb6 => ?_))
  have ge_hB_g6 := Nat.le_trans hB.size hg6
  have lt_g3_g6 : g3 < g6 := Nat.lt_of_lt_of_le hr3.lt hg6
  replace hr3 := hr3.new hb6
  replace hB := hB.acc hb6
  refine WR_nil ?_
  refine thenN ?_
  refine W_seq ?_
  refine W_region ?_
  refine WR_val rfl (rn_fieldAddr (off := 2) (by kernel_rfl) rfl) ?_
  refine WR_val rfl (rn_load rfl (Ld.row1 hr3 (by kernel_rfl) rfl)) ?_
  have hobt : ∃ B, w6.heap.size = B := ⟨_, rfl⟩
  obtain ⟨B, hBd⟩ := hobt
  have g3B : g3 < B := by rw [← hBd]; exact hr3.lt
  have g6B : g6 < B := by rw [← hBd]; exact hr6.lt
  have hwB : w.heap.size ≤ B := by rw [← hBd]; exact hB.size
  refine WR_mk rfl (mk_append (e := 69) (sz := 2) (bytes := 32) (z := .agg ([Value.bool false, Value.slice none 0 0]).toArray) (by kernel_rfl) rfl (by kernel_rfl) rfl (by decide) rfl (ownsAt_nil w6 w6.heap.size 69 2) rfl (h.below hB (Nat.le_refl _)) hone (by unfold maxLen; omega) (by omega) (fun _ => Nat.le_refl _) (fun v10 w10 hv10 hgr10 hfr10 => ?_))
  have hb10 := below_of_nil hgr10
  replace hr3 := hr3.new hb10
  replace hr6 := hr6.new hb10
  replace hB := hB.acc hb10
  rw [Nat.zero_add, List.nil_append, hBd] at hv10
  have hBs : B ≤ w10.heap.size := by rw [← hBd]; exact hgr10.size
  have hform := hv10.form
  obtain ⟨p10, c10, rfl⟩ := hform
  refine WR_val rfl (rn_assign) ?_
  refine WR_nil ?_
  refine thenN ?_
  refine W_cut (fun q : Option Addr × Nat × Nat × List Value => [(7, .slice q.1 q.2.1 q.2.2.1), (3, .pointer (some ⟨g3, 0, none⟩)), (6, .pointer (some ⟨g6, 0, none⟩)), (1, .int .i64 (i : Nat)), (2, .slice pr r.length cr)]) (fun q w' => row w' g3 [.int .i64 (V.kind : Int), .int .i64 (V.next : Int), .slice p n c] 57 ∧ row w' g6 [.int .i64 0, .int .i64 0, .slice none 0 0] 57 ∧ ownsAt w' B 69 2 (.slice q.1 q.2.1 q.2.2.1) q.2.1 q.2.2.2 ∧ q.2.2.2 = (if i = n then fl ++ [.bool false, .slice none 0 0] else fl) ∧ q.2.1 = (if i = n then S ++ [none] else S).length ∧ B ≤ w'.heap.size ∧ Below w.heap.size w w') ?_ ?_
  ·
    refine W_seq ?_
    refine W_region ?_
    refine WR_val rfl (rn_move) ?_
    refine WR_val rfl (rn_move) ?_
    refine WR_val rfl (rn_lenSl (e := 69) (sz := 2) (by kernel_rfl) rfl rfl) ?_
    refine WR_val rfl (rn_eql rfl rfl) ?_
    refine WR_nil ?_
    refine thenN ?_
    refine W_ifp rfl (fun he => ?_) (fun he => ?_)
    ·
      refine W_region ?_
      refine WR_val rfl (rn_move) ?_
      refine WR_val rfl (rn_zeroed [.bool false, .slice none 0 0] (by kernel_rfl)) ?_
      refine WR_mk rfl (mk_one (e := 69) (.agg #[.bool false, .slice none 0 0]) ([.bool false, .slice none 0 0]) ([Value.bool false, Value.slice none 0 0]) 2 (by kernel_rfl) (by kernel_rfl) rfl rfl (by first | rfl | (simp; done) | (simp [bv_length, *]; done)) ⟨by decide, by decide⟩ (fun g17 w17 hg17 hr17 hb17 => ?_))
      have ge_hB_g17 := Nat.le_trans hB.size hg17
      have lt_g3_g17 : g3 < g17 := Nat.lt_of_lt_of_le hr3.lt hg17
      have lt_g6_g17 : g6 < g17 := Nat.lt_of_lt_of_le hr6.lt hg17
      replace hr3 := hr3.new hb17
      replace hr6 := hr6.new hb17
      replace hv10 := hv10.new hb17
      replace hB := hB.acc hb17
      have hs17 := hr17.slA (m := 1) (sz := 2) rfl (by omega)
      have hBs2 : B ≤ w17.heap.size := Nat.le_trans hBs hb17.size
      have sz_hB_18 := hB.size
      refine WR_mk rfl (mk_append (e := 69) (sz := 2) (bytes := 32) (z := .agg ([Value.bool false, Value.slice none 0 0]).toArray) (by kernel_rfl) rfl (by kernel_rfl) rfl (by decide) rfl hv10 rfl hs17 (by simp [Value.oneCell']) (by unfold maxLen; omega) (by omega) (fun hm0 => by omega) (fun v18 w18 hv18 hgr18 hfr18 => ?_))
      replace hr3 := hr3.own hv10 hgr18 (by omega)
      replace hr6 := hr6.own hv10 hgr18 (by omega)
      replace hB := hB.own hv10 hgr18 (by omega)
      have hform := hv18.form
      obtain ⟨p18, c18, rfl⟩ := hform
      refine WR_val rfl (rn_assign) ?_
      refine WR_nil ?_
      refine loopN ⟨(p18, n + 1, c18, fl ++ [.bool false, .slice none 0 0]), ⟨rfl, rfl, rfl, rfl, rfl, rfl⟩, hr3, hr6, hv18, ?_, ?_, Nat.le_trans hBs2 hgr18.size, hB⟩
      · rw [if_pos (by omega)]
      · rw [if_pos (by omega), List.length_append, hn1]; rfl
    ·
      refine W_skip ?_
      refine loopN ⟨(p10, n, c10, fl), ⟨rfl, rfl, rfl, rfl, rfl, rfl⟩, hr3, hr6, hv10, ?_, ?_, hBs, hB⟩
      · rw [if_neg (by omega)]
      · rw [if_neg (by omega), hn1]
  ·
    rintro ⟨q, m, c', fl'⟩ f2 wz ⟨hr3, hr6, hown, hrs, hm, hBs3, hB⟩
    simp only at hown hrs hm
    have hfin : ∀ w', Below w.heap.size w w' → RsAt w' o fl' (if i = n then S ++ [none] else S) := fun w' hb => by
      rw [hrs]
      split
      · exact (hs.new hb).snocN
      · exact hs.new hb
    obtain ⟨S', hS'⟩ : ∃ S', (if i = n then S ++ [none] else S) = S' := ⟨_, rfl⟩
    rw [hS'] at hfin hm
    have him : i < m := by
      rw [hm, ← hS']
      split
      · rw [List.length_append]; simp; omega
      · omega
    have hset : S'.set i (some r) = setS S i r := by
      rw [← hS', setS, hn1]
      split
      · rename_i h; rw [h, ← hn1, List.set_append_right _ _ (Nat.le_refl _), Nat.sub_self]; rfl
      · rfl
    have hlen : (setS S i r).length = m := by rw [← hset, List.length_set, ← hm]
    obtain ⟨g, o1, cc, e0, hBg, hgl, -⟩ := hown.form' (by omega)
    injection e0 with e1 e2 e3
    subst e1 e3
    have hG : OwnG wz B 69 2 g o1 m c' fl' := hown
    rw [hlen]
    have hfl := hG.len
    refine W_seq ?_
    refine W_region ?_
    refine WR_val rfl (rn_move) ?_
    refine WR_val rfl (rn_move) ?_
    refine WR_val rfl (rn_move) ?_
    refine WR_val rfl (rn_built2 (.bool true) (.slice pr r.length cr) [.bool true, .slice pr r.length cr] rfl rfl (by kernel_rfl)) ?_
    refine WR_val rfl (rn_indexSl (e := 69) (sz := 2) (by kernel_rfl) rfl rfl (i) (by omega) (by omega)) ?_
    refine WR_sk rfl (sk_storeO ([.bool true, .slice pr r.length cr]) (i * 2) hG rfl rfl (by kernel_rfl) (by first | (simp only [iv_length, List.length_cons, List.length_nil]; omega) | omega | (simp; omega)) (by simp [Value.oneCell']) (fun w901 hG ho901 => ?_))
    replace hr3 := hr3.only ho901 (by omega)
    replace hr6 := hr6.only ho901 (by omega)
    replace hB := ho901.below hB (by omega)
    refine WR_nil ?_
    refine thenN ?_
    refine W_seq ?_
    refine W_region ?_
    refine WR_val rfl (rn_move) ?_
    refine WR_val rfl (rn_fieldAddr (off := 2) (by kernel_rfl) rfl) ?_
    refine WR_sk rfl (sk_store1 rfl rfl rfl rfl hr3 (by kernel_rfl) (by first | (simp only [List.length_replicate]; omega) | (simp only [iv_length]; omega) | (simp only [bv_length, List.length_set]; omega) | simp) (fun w902 hr3 ho902 => ?_))
    replace hr6 := hr6.only ho902 (Nat.ne_of_gt lt_g3_g6)
    replace hG := hG.only ho902 (by omega)
    replace hB := ho902.below hB ge_hB_g3
    refine WR_nil ?_
    refine thenN ?_
    refine W_seq ?_
    refine W_region ?_
    refine WR_val rfl (rn_load rfl (Ld.rowA (k := 3) hr3 (by kernel_rfl) (by kernel_rfl) (by first | (simp; done) | (simp [bv_length, *]; done) | assumption))) ?_
    refine WR_sk rfl (sk_storeA 3 ([.int .i64 (V.kind : Int), .int .i64 (V.next : Int), .slice (some ⟨g, o1, none⟩) m c']) rfl rfl hr6 (by kernel_rfl) (by first | assumption | (simp; done) | (simp [bv_length, *]; done)) (by first | assumption | (simp; done) | (simp [bv_length, *]; done) | rfl) (by first | exact bv_one _ | assumption | (simp [Value.oneCell']; done)) (fun w903 hr6 ho903 => ?_))
    replace hr3 := hr3.only ho903 (Nat.ne_of_lt lt_g3_g6)
    replace hG := hG.only ho903 (by omega)
    replace hB := ho903.below hB ge_hB_g6
    refine WR_nil ?_
    refine thenN ?_
    refine W_ret ?_
    refine ret_ret [_] ⟨⟨_, rfl, Ld.rowA (k := 3) hr6 (by kernel_rfl) (by kernel_rfl) (by first | (simp; done) | (simp [bv_length, *]; done) | assumption)⟩, trivial⟩ ?_
    have hrq : 0 < (bod (some r)).length → ∀ b off, pr = some ⟨b, off, none⟩ → b < w903.heap.size ∧ b ∉ o := fun h0 b off e => by
      have hno := hro h0 b off e
      obtain ⟨g', off', e', hl'⟩ := hr.some (by rw [Nat.mul_one]; exact h0)
      rw [e'] at e
      cases e
      exact ⟨Nat.lt_of_lt_of_le hl' hB.size, hno⟩
    have hrs2 := (hfin _ hB).setR (c := cr) (i := i) (s := some r) (by omega) (hr.below hB (Nat.le_refl _)) hrq
    rw [hset] at hrs2
    exact ⟨_, c', _, rfl, fun b off e => by injection e with e; injection e with e; omega, hG.sl, hrs2, hB⟩
end Go.Proofs.Ytjdcopfnhkfimaa
