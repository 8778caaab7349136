/- The reference's pages: what a page has. -/
import Derived.Test.YtjdcopfnhkfimaaPageN
namespace Go.Proofs.Ytjdcopfnhkfimaa
open Go Go.RowKit Coup

/-- Kp, as a fact that is kept up. -/
structure KpB (M : List Nat) (w0 w : World) : Prop where
  k : Kp M w0 w
namespace KpB
variable {M : List Nat} {w0 w w' : World}
theorem refl (M : List Nat) (w : World) : KpB M w w := ⟨Kp.refl M w⟩
theorem kpd {N : List Nat} (h : KpB M w0 w) (k : Kp N w w') (hN : ∀ g, g ∈ N → g ∈ M ∨ w0.heap.size ≤ g) : KpB M w0 w' :=
  ⟨⟨k.os.trans h.k.os, k.tape.trans h.k.tape, k.output.trans h.k.output, Nat.le_trans h.k.size k.size, fun b hb hm => by
    rw [k.block b (Nat.lt_of_lt_of_le hb h.k.size) fun hn => ?_]
    · exact h.k.block b hb hm
    · rcases hN b hn with e | e
      · exact hm e
      · omega⟩⟩
theorem new (h : KpB M w0 w) (hb : Below w.heap.size w w') : KpB M w0 w' := h.kpd (N := []) (Kp.of_below hb) (fun g hm => by cases hm)
theorem only {g : Nat} (h : KpB M w0 w) (ho : Only g w w') (hg : g ∈ M ∨ w0.heap.size ≤ g) : KpB M w0 w' := h.kpd (Kp.of_only ho) fun g' hm => by
  have : g' = g := by simpa using hm
  rw [this]; exact hg
theorem own {base e sz m : Nat} {v : Value} {xs : List Value} (h : KpB M w0 w) (ho : ownsAt w base e sz v m xs) (hg : w.grownBy w' v.ownBlock) (hk : w0.heap.size ≤ base) : KpB M w0 w' :=
  h.kpd (Kp.of_grown hg) fun g hm => Or.inr (Nat.le_trans hk (ho.lt g (Option.mem_toList.1 hm)).1)
end KpB
namespace RsAt
variable {w w' : World} {o : List Nat} {fl : List Value} {S : List (Option (List UInt8))}
theorem growL {v v' : Value} {L : List Nat} (h : RsAt w (v.ownBlock.toList ++ L) fl S) (hg : w.grownBy w' v.ownBlock) (hf : ∀ g, v'.ownBlock = some g → v.ownBlock = some g ∨ w.heap.size ≤ g) : RsAt w' (v'.ownBlock.toList ++ L) fl S :=
  have h1 : RsAt w ((v'.ownBlock.toList ++ L) ++ v.ownBlock.toList) fl S := h.avoid fun g hm => by
    rcases List.mem_append.1 hm with e | e
    · rcases List.mem_append.1 e with e | e
      · exact (hf g (Option.mem_toList.1 e)).elim (fun e => Or.inl (List.mem_append_left _ (Option.mem_toList.2 e))) Or.inr
      · exact Or.inl (List.mem_append_right _ e)
    · exact Or.inl (List.mem_append_left _ e)
  (h1.kpd (Kp.of_grown hg) fun g hm => List.mem_append_right _ hm).avoid fun g hm => Or.inl (List.mem_append_left _ hm)
theorem snoc {q : Option Addr} {c : Nat} {s : Option (List UInt8)} (h : RsAt w o fl S) (h1 : SlAt w q (bod s).length 1 (bv (bod s))) (h2 : 0 < (bod s).length → ∀ b off, q = some ⟨b, off, none⟩ → b < w.heap.size ∧ b ∉ o) : RsAt w o (fl ++ [.bool s.isSome, .slice q (bod s).length c]) (S ++ [s]) := by
  have hl := h.len
  refine ⟨by rw [List.length_append, List.length_append, hl]; simp; omega, fun i s' hs => ?_⟩
  rcases Nat.lt_or_ge i S.length with h3 | h3
  · rw [List.getElem?_append_left h3] at hs
    rw [List.getElem?_append_left (by omega), List.getElem?_append_left (by omega)]
    exact h.at_ i s' hs
  · rw [List.getElem?_append_right h3] at hs
    rcases Nat.eq_zero_or_pos (i - S.length) with h4 | h4
    · rw [h4] at hs
      cases hs
      rw [List.getElem?_append_right (by omega), List.getElem?_append_right (by omega), show i * 2 - fl.length = 0 by omega, show i * 2 + 1 - fl.length = 1 by omega]
      exact ⟨rfl, q, c, rfl, h1, h2⟩
    · rw [List.getElem?_eq_none (by simp; omega)] at hs; cases hs
end RsAt
set_option maxHeartbeats 2000000 in
theorem rof27 (V : View) (w : World) (hV : Good V) :
    Calls Try.prog 27 [.agg (bv (bytesV V)).toArray].toArray w (Ret fun v w' => ∃ p c fl, v = .tuple #[viewV V p V.slots.length c, .bool true] ∧ SlAt w' p V.slots.length 2 fl ∧ RsAt w' [] fl V.slots ∧ Below w.heap.size w w') := by
  have hB := Below.refl w.heap.size w
  have hml : maxLen = 9223372036854775807 := by decide
  have hz := hV.size
  have hbl0 := bytesV_len V hz
  have hbl : (bv (bytesV V)).length = 512 := by rw [bv_length]; exact hbl0
  have hk0 := at_kind V hz
  have hm2 := at_many V hz
  have hh8 := at_hi V hz hV.next
  have hl10 := at_lo V hz
  have hkd := hV.kind
  have hnx := hV.next
  have hz2 := hz
  unfold sizeV at hz2
  obtain ⟨Q, hQ⟩ : ∃ Q, bytesV V = Q := ⟨_, rfl⟩
  rw [hQ] at hbl hbl0 hk0 hm2 hh8 hl10 ⊢
  obtain ⟨S, hS⟩ : ∃ S, V.slots = S := ⟨_, rfl⟩
  obtain ⟨n, hn⟩ : ∃ n, V.slots.length = n := ⟨_, rfl⟩
  have hnS : n = S.length := by rw [← hn, hS]
  have hz3 : 12 + 4 * S.length + lenS S ≤ 512 := by rw [← hS]; exact hz2
  rw [hn] at hm2 hz2 ⊢
  refine calls_W (fn := Try.f27) (rs := [.cell 2 57, .tmp 3]) (n := 85) Try.func27 rfl rfl Try.ntmps27 (by kernel_rfl) rfl ?_
  refine W_seq ?_
  refine W_region ?_
  refine WR_mk rfl (mk_box ((bv Q)) rfl (fun g1 w1 hg1 hr1 hb1 => ?_))
  have ge_hB_g1 := Nat.le_trans hB.size hg1
  replace hB := hB.acc hb1
  refine WR_mk rfl (mk_alloc ([Value.int .i64 0, Value.int .i64 0, Value.slice none 0 0]) (by kernel_rfl) (fun g2 w2 hg2 hr2 hb2 => ?_))
  have ge_hB_g2 := Nat.le_trans hB.size hg2
  have lt_g1_g2 : g1 < g2 := Nat.lt_of_lt_of_le hr1.lt hg2
  replace hr1 := hr1.new hb2
  replace hB := hB.acc hb2
  refine WR_val rfl (rn_assign) ?_
  refine WR_nil ?_
  refine thenN ?_
  refine W_cut (fun g4 : Nat => [(1, .pointer (some ⟨g1, 0, none⟩)), (2, .pointer (some ⟨g2, 0, none⟩)), (4, .pointer (some ⟨g4, 0, none⟩))]) (fun g4 w' => row w' g1 (bv Q) 23 ∧ row w' g2 [.int .i64 0, .int .i64 0, .slice none 0 0] 57 ∧ row w' g4 [.int .i64 (V.kind : Int), .int .i64 (V.next : Int), .slice none 0 0] 57 ∧ g1 < g4 ∧ g2 < g4 ∧ Below w.heap.size w w') ?_ ?_
  ·
    refine W_draw' [] (by kernel_rfl) ?_
    intro w901 hb901 hS901
    replace hr1 := hr1.new hb901
    replace hr2 := hr2.new hb901
    replace hB := hB.acc hb901
    have hr1_d901 := hr1
    have hr2_d901 := hr2
    have hB_d901 := hB
    refine WA_take 0 (by kernel_rfl) rfl (fun _ _ => rn_indexAr1 (e := 5) (m := 512) (by kernel_rfl) rfl rfl (0) rfl (by omega)) ?_
    refine WA_take 1 (by kernel_rfl) rfl (fun w' hS' => rn_load rfl (Ld.row1 (hr1_d901.kpd hS' (by first | (simp; done) | (simp; omega) | (simp [*]; done))) (by kernel_rfl) (show (bv Q)[0]? = some (.int .u8 ((u8 V.kind).toNat : Int)) by rw [bv, List.getElem?_map, hk0]; rfl))) ?_
    refine WA_take 2 (by kernel_rfl) rfl (fun _ _ => rn_conv (k := .i64) (by kernel_rfl) (by kernel_rfl) rfl (show IntKind.i64.wrap ((u8 V.kind).toNat : Int) = (V.kind : Int) by rw [u8_nat (by omega)]; exact w64 (by omega))) ?_
    refine WA_take 3 (by kernel_rfl) rfl (fun w' hS' => rn_load rfl (Ld.rowA (k := 512) (hr1_d901.kpd hS' (by first | (simp; done) | (simp; omega) | (simp [*]; done))) (by kernel_rfl) (by kernel_rfl) (by first | (simp; done) | (simp [bv_length, *]; done) | assumption))) ?_
    refine WA_take 6 (by kernel_rfl) rfl (fun w' hS' => rn_load rfl (Ld.rowA (k := 512) (hr1_d901.kpd hS' (by first | (simp; done) | (simp; omega) | (simp [*]; done))) (by kernel_rfl) (by kernel_rfl) (by first | (simp; done) | (simp [bv_length, *]; done) | assumption))) ?_
    refine WA_two 4 10 (by kernel_rfl) ?_ ?_
    ·
      refine WO_ent rfl rfl (rn_call (by kernel_rfl) rfl) (get38 Q 8 (V.next / 65536) _ w901 hbl0 hh8 rfl) ?_
      rintro _ w15 ⟨rfl, hb15⟩
      have hS902 := hS901.add0 hb15
      refine ⟨hS902, ?_⟩
      replace hr1 := hr1.new hb15
      replace hr2 := hr2.new hb15
      replace hB := hB.acc hb15
      refine WA_take 5 (by kernel_rfl) rfl (fun _ _ => rn_mul rfl rfl (Coup.w64 (by omega))) ?_
      refine WA_two 7 10 (by kernel_rfl) ?_ ?_
      ·
        refine WO_ent rfl rfl (rn_call (by kernel_rfl) rfl) (get38 Q 10 (V.next % 65536) _ w15 hbl0 hl10 rfl) ?_
        rintro _ w18 ⟨rfl, hb18⟩
        have hS903 := hS902.add0 hb18
        refine ⟨hS903, ?_⟩
        replace hr1 := hr1.new hb18
        replace hr2 := hr2.new hb18
        replace hB := hB.acc hb18
        refine WA_take 8 (by kernel_rfl) rfl (fun _ _ => rn_add rfl rfl (show _ = (V.next : Int) by rw [w64 (by omega)]; omega)) ?_
        refine WA_take 9 (by kernel_rfl) rfl (fun _ _ => rn_built2 (.int .i64 (V.kind : Int)) (.int .i64 (V.next : Int)) [.int .i64 (V.kind : Int), .int .i64 (V.next : Int), .slice none 0 0] rfl rfl (by kernel_rfl)) ?_
        refine WA_one 10 (by kernel_rfl) ?_
        refine WO_mk rfl rfl (mk_alloc ([Value.int .i64 0, Value.int .i64 0, Value.slice none 0 0]) (by kernel_rfl) (fun g4 w4 hg4 hr4 hb4 => ?_))
        have hS904 := hS903.add0 hb4
        refine ⟨hS904, ?_⟩
        have ge_hS903_g4 := Nat.le_trans hS903.size hg4
        have ge_hB_g4 := Nat.le_trans hB.size hg4
        have lt_g1_g4 : g1 < g4 := Nat.lt_of_lt_of_le hr1.lt hg4
        have lt_g2_g4 : g2 < g4 := Nat.lt_of_lt_of_le hr2.lt hg4
        replace hr1 := hr1.new hb4
        replace hr2 := hr2.new hb4
        replace hB := hB.acc hb4
        refine WA_one 11 (by kernel_rfl) ?_
        refine WO_sk rfl rfl (sk_storeA 3 ([.int .i64 (V.kind : Int), .int .i64 (V.next : Int), .slice none 0 0]) rfl rfl hr4 (by kernel_rfl) (by first | assumption | (simp; done) | (simp [bv_length, *]; done)) (by first | assumption | (simp; done) | (simp [bv_length, *]; done) | rfl) (by first | exact bv_one _ | assumption | (simp [Value.oneCell']; done)) (fun w906 hr4 ho906 => ?_))
        have hS905 := hS904.add1 ho906 (by first | (left; omega) | (right; simp; done) | (right; simp; omega))
        refine ⟨hS905, ?_⟩
        replace hr1 := hr1.only ho906 (Nat.ne_of_lt lt_g1_g4)
        replace hr2 := hr2.only ho906 (Nat.ne_of_lt lt_g2_g4)
        replace hB := ho906.below hB ge_hB_g4
        refine WA_done (by kernel_rfl) ?_
        refine loopN ⟨g4, ⟨rfl, rfl, rfl, rfl⟩, hr1, hr2, hr4, by omega, by omega, hB⟩
      ·
        refine WO_mk rfl rfl (mk_alloc ([Value.int .i64 0, Value.int .i64 0, Value.slice none 0 0]) (by kernel_rfl) (fun g4 w4 hg4 hr4 hb4 => ?_))
        have hS907 := hS902.add0 hb4
        refine ⟨hS907, ?_⟩
        have ge_hS902_g4 := Nat.le_trans hS902.size hg4
        have ge_hB_g4 := Nat.le_trans hB.size hg4
        have lt_g1_g4 : g1 < g4 := Nat.lt_of_lt_of_le hr1.lt hg4
        have lt_g2_g4 : g2 < g4 := Nat.lt_of_lt_of_le hr2.lt hg4
        replace hr1 := hr1.new hb4
        replace hr2 := hr2.new hb4
        replace hB := hB.acc hb4
        refine WA_one 7 (by kernel_rfl) ?_
        refine WO_ent rfl rfl (rn_call (by kernel_rfl) rfl) (get38 Q 10 (V.next % 65536) _ w4 hbl0 hl10 rfl) ?_
        rintro _ w18 ⟨rfl, hb18⟩
        have hS908 := hS907.add0 hb18
        refine ⟨hS908, ?_⟩
        replace hr1 := hr1.new hb18
        replace hr2 := hr2.new hb18
        replace hr4 := hr4.new hb18
        replace hB := hB.acc hb18
        refine WA_take 8 (by kernel_rfl) rfl (fun _ _ => rn_add rfl rfl (show _ = (V.next : Int) by rw [w64 (by omega)]; omega)) ?_
        refine WA_take 9 (by kernel_rfl) rfl (fun _ _ => rn_built2 (.int .i64 (V.kind : Int)) (.int .i64 (V.next : Int)) [.int .i64 (V.kind : Int), .int .i64 (V.next : Int), .slice none 0 0] rfl rfl (by kernel_rfl)) ?_
        refine WA_one 11 (by kernel_rfl) ?_
        refine WO_sk rfl rfl (sk_storeA 3 ([.int .i64 (V.kind : Int), .int .i64 (V.next : Int), .slice none 0 0]) rfl rfl hr4 (by kernel_rfl) (by first | assumption | (simp; done) | (simp [bv_length, *]; done)) (by first | assumption | (simp; done) | (simp [bv_length, *]; done) | rfl) (by first | exact bv_one _ | assumption | (simp [Value.oneCell']; done)) (fun w910 hr4 ho910 => ?_))
        have hS909 := hS908.add1 ho910 (by first | (left; omega) | (right; simp; done) | (right; simp; omega))
        refine ⟨hS909, ?_⟩
        replace hr1 := hr1.only ho910 (Nat.ne_of_lt lt_g1_g4)
        replace hr2 := hr2.only ho910 (Nat.ne_of_lt lt_g2_g4)
        replace hB := ho910.below hB ge_hB_g4
        refine WA_done (by kernel_rfl) ?_
        refine loopN ⟨g4, ⟨rfl, rfl, rfl, rfl⟩, hr1, hr2, hr4, by omega, by omega, hB⟩
    ·
      refine WO_mk rfl rfl (mk_alloc ([Value.int .i64 0, Value.int .i64 0, Value.slice none 0 0]) (by kernel_rfl) (fun g4 w4 hg4 hr4 hb4 => ?_))
      have hS911 := hS901.add0 hb4
      refine ⟨hS911, ?_⟩
      have ge_hS901_g4 := Nat.le_trans hS901.size hg4
      have ge_hB_g4 := Nat.le_trans hB.size hg4
      have lt_g1_g4 : g1 < g4 := Nat.lt_of_lt_of_le hr1.lt hg4
      have lt_g2_g4 : g2 < g4 := Nat.lt_of_lt_of_le hr2.lt hg4
      replace hr1 := hr1.new hb4
      replace hr2 := hr2.new hb4
      replace hB := hB.acc hb4
      refine WA_one 4 (by kernel_rfl) ?_
      refine WO_ent rfl rfl (rn_call (by kernel_rfl) rfl) (get38 Q 8 (V.next / 65536) _ w4 hbl0 hh8 rfl) ?_
      rintro _ w15 ⟨rfl, hb15⟩
      have hS912 := hS911.add0 hb15
      refine ⟨hS912, ?_⟩
      replace hr1 := hr1.new hb15
      replace hr2 := hr2.new hb15
      replace hr4 := hr4.new hb15
      replace hB := hB.acc hb15
      refine WA_take 5 (by kernel_rfl) rfl (fun _ _ => rn_mul rfl rfl (Coup.w64 (by omega))) ?_
      refine WA_one 7 (by kernel_rfl) ?_
      refine WO_ent rfl rfl (rn_call (by kernel_rfl) rfl) (get38 Q 10 (V.next % 65536) _ w15 hbl0 hl10 rfl) ?_
      rintro _ w18 ⟨rfl, hb18⟩
      have hS913 := hS912.add0 hb18
      refine ⟨hS913, ?_⟩
      replace hr1 := hr1.new hb18
      replace hr2 := hr2.new hb18
      replace hr4 := hr4.new hb18
      replace hB := hB.acc hb18
      refine WA_take 8 (by kernel_rfl) rfl (fun _ _ => rn_add rfl rfl (show _ = (V.next : Int) by rw [w64 (by omega)]; omega)) ?_
      refine WA_take 9 (by kernel_rfl) rfl (fun _ _ => rn_built2 (.int .i64 (V.kind : Int)) (.int .i64 (V.next : Int)) [.int .i64 (V.kind : Int), .int .i64 (V.next : Int), .slice none 0 0] rfl rfl (by kernel_rfl)) ?_
      refine WA_one 11 (by kernel_rfl) ?_
      refine WO_sk rfl rfl (sk_storeA 3 ([.int .i64 (V.kind : Int), .int .i64 (V.next : Int), .slice none 0 0]) rfl rfl hr4 (by kernel_rfl) (by first | assumption | (simp; done) | (simp [bv_length, *]; done)) (by first | assumption | (simp; done) | (simp [bv_length, *]; done) | rfl) (by first | exact bv_one _ | assumption | (simp [Value.oneCell']; done)) (fun w915 hr4 ho915 => ?_))
      have hS914 := hS913.add1 ho915 (by first | (left; omega) | (right; simp; done) | (right; simp; omega))
      refine ⟨hS914, ?_⟩
      replace hr1 := hr1.only ho915 (Nat.ne_of_lt lt_g1_g4)
      replace hr2 := hr2.only ho915 (Nat.ne_of_lt lt_g2_g4)
      replace hB := ho915.below hB ge_hB_g4
      refine WA_done (by kernel_rfl) ?_
      refine loopN ⟨g4, ⟨rfl, rfl, rfl, rfl⟩, hr1, hr2, hr4, by omega, by omega, hB⟩
  ·
    rintro g4 f1 w1 ⟨hr1, hr2, hr4, h14, h24, hB⟩
    refine W_seq ?_
    refine W_region ?_
    refine WR_val rfl (rn_load rfl (Ld.rowA (k := 512) hr1 (by kernel_rfl) (by kernel_rfl) (by first | (simp; done) | (simp [bv_length, *]; done) | assumption))) ?_
    refine WR_ent rfl (rn_call (by kernel_rfl) rfl) (get38 Q 2 n _ w1 hbl0 hm2 rfl) ?_
    rintro _ w22 ⟨rfl, hb22⟩
    replace hr1 := hr1.new hb22
    replace hr2 := hr2.new hb22
    replace hr4 := hr4.new hb22
    replace hB := hB.acc hb22
    refine WR_val rfl (rn_assign) ?_
    refine WR_nil ?_
    refine thenN ?_
    refine W_seq ?_
    refine W_seq ?_
    refine W_region ?_
    refine WR_val rfl (rn_move) ?_
    refine WR_val rfl (rn_mul rfl rfl (Coup.w64 (by omega))) ?_
    refine WR_val rfl (rn_add rfl rfl (Coup.w64 (by omega))) ?_
    refine WR_val rfl (rn_gtr rfl rfl) ?_
    refine WR_nil ?_
    refine thenN ?_
    refine W_fp rfl ((by omega)) ?_
    refine W_skip ?_
    refine thenN ?_
    refine W_seq ?_
    refine W_seq ?_
    refine W_region ?_
    refine WR_val rfl (rn_assign) ?_
    refine WR_nil ?_
    refine thenN ?_
    refine W_block ?_
    obtain ⟨B, hBd⟩ : ∃ B, w22.heap.size = B := ⟨_, rfl⟩
    have hwB : w.heap.size ≤ B := by rw [← hBd]; exact hB.size
    have g1B : g1 < B := by rw [← hBd]; exact hr1.lt
    have g2B : g2 < B := by rw [← hBd]; exact hr2.lt
    have g4B : g4 < B := by rw [← hBd]; exact hr4.lt
    refine W_loop (α := Nat × Option Addr × Nat × List Value) (0, none, 0, []) (fun k => [(6, .int .i64 (k.1 : Nat)), (5, .int .i64 (n : Nat)), (1, .pointer (some ⟨g1, 0, none⟩)), (2, .pointer (some ⟨g2, 0, none⟩)), (4, .pointer (some ⟨g4, 0, none⟩))])
      (fun k w' => k.1 ≤ n ∧ row w' g1 (bv Q) 23 ∧ row w' g2 [.int .i64 0, .int .i64 0, .slice none 0 0] 57 ∧ row w' g4 [.int .i64 (V.kind : Int), .int .i64 (V.next : Int), .slice k.2.1 k.1 k.2.2.1] 57 ∧ ownsAt w' B 69 2 (.slice k.2.1 k.1 k.2.2.1) k.1 k.2.2.2 ∧ RsAt w' ((Value.ownBlock (.slice k.2.1 k.1 k.2.2.1)).toList ++ [g4, g2]) k.2.2.2 (S.take k.1) ∧ B ≤ w'.heap.size ∧ Below w.heap.size w w') (fun k => n - k.1)
      ⟨rfl, rfl, rfl, rfl, rfl, rfl⟩ ⟨Nat.zero_le _, hr1, hr2, hr4, ownsAt_nil _ _ _ _, RsAt.nil _ _, by omega, hB⟩ ?_
    clear hr1 hr2 hr4 hB
    rintro ⟨i, p, c, fl⟩ f wr ⟨hi, hr1, hr2, hr4, hv, hrs, hBs, hB⟩
    simp only at hi hr4 hv hrs
    have hvl0 := hv.lt
    have hBsz := hB.size
    have hBr := Below.refl wr.heap.size wr
    refine W_seq ?_
    refine W_seq ?_
    refine W_region ?_
    refine WR_val rfl (rn_move) ?_
    refine WR_val rfl (rn_move) ?_
    refine WR_val rfl (rn_lss rfl rfl) ?_
    refine WR_nil ?_
    refine thenN ?_
    refine W_ifp rfl (fun hlt => ?_) (fun hlt => ?_)
    ·
      refine W_skip ?_
      refine thenN ?_
      refine W_seq ?_
      refine W_block ?_
      refine W_seq ?_
      have hobt : ∃ s, S[i]? = some s := ⟨_, List.getElem?_eq_getElem (by omega)⟩
      obtain ⟨s, hsi⟩ := hobt
      have hsV : V.slots[i]? = some s := by rw [hS]; exact hsi
      have hfr := at_from V hsV
      have hlg := at_long V hz hsV
      rw [hQ] at hfr hlg
      rw [hS] at hfr
      have hts : S.take (i + 1) = S.take i ++ [s] := by rw [List.take_add_one, hsi]; rfl
      have hsn := lenS_snoc hsi
      have hlt2 := lenS_take S (i + 1)
      have hfs : fromS S i s + (bod s).length ≤ 512 := by
        cases s with
        | none => simp [fromS, bod]
        | some r => have hbr : (bod (some r)).length = r.length := rfl; simp only [fromS]; omega
      have hrec : ∀ k b, (bod s)[k]? = some b → Q[fromS S i s + k]? = some b := by
        intro k b hb
        cases s with
        | none => simp [bod] at hb
        | some r =>
          have h1 := at_rec V hz hsV
          rw [hQ, hS] at h1
          have h2 : ((Q.drop (fromS S i (some r))).take r.length)[k]? = r[k]? := by rw [h1]
          have hkl := (List.getElem?_eq_some_iff.1 hb).1
          rw [List.getElem?_take_of_lt (show k < r.length from hkl), List.getElem?_drop] at h2
          exact h2.trans hb
      refine W_draw' [] (by kernel_rfl) ?_
      intro w916 hb916 hS916
      replace hr1 := hr1.new hb916
      replace hr2 := hr2.new hb916
      replace hr4 := hr4.new hb916
      replace hv := hv.new hb916
      replace hrs := hrs.new hb916
      replace hB := hB.acc hb916
      replace hBr := hBr.acc hb916
      have hr1_d916 := hr1
      have hr2_d916 := hr2
      have hr4_d916 := hr4
      have hv_d916 := hv
      have hrs_d916 := hrs
      have hB_d916 := hB
      have hBr_d916 := hBr
      refine WA_take 0 (by kernel_rfl) rfl (fun w' hS' => rn_load rfl (Ld.rowA (k := 512) (hr1_d916.kpd hS' (by first | (simp; done) | (simp; omega) | (simp [*]; done))) (by kernel_rfl) (by kernel_rfl) (by first | (simp; done) | (simp [bv_length, *]; done) | assumption))) ?_
      refine WA_take 1 (by kernel_rfl) rfl (fun _ _ => rn_move) ?_
      refine WA_take 2 (by kernel_rfl) rfl (fun _ _ => rn_mul rfl rfl (Coup.w64 (by omega))) ?_
      refine WA_take 3 (by kernel_rfl) rfl (fun _ _ => rn_add rfl rfl (Coup.w64 (by omega))) ?_
      refine WA_take 5 (by kernel_rfl) rfl (fun w' hS' => rn_load rfl (Ld.rowA (k := 512) (hr1_d916.kpd hS' (by first | (simp; done) | (simp; omega) | (simp [*]; done))) (by kernel_rfl) (by kernel_rfl) (by first | (simp; done) | (simp [bv_length, *]; done) | assumption))) ?_
      refine WA_take 6 (by kernel_rfl) rfl (fun _ _ => rn_move) ?_
      refine WA_take 7 (by kernel_rfl) rfl (fun _ _ => rn_mul rfl rfl (Coup.w64 (by omega))) ?_
      refine WA_take 8 (by kernel_rfl) rfl (fun _ _ => rn_add rfl rfl (Coup.w64 (by omega))) ?_
      refine WA_one 4 (by kernel_rfl) ?_
      refine WO_ent rfl rfl (rn_call (by kernel_rfl) rfl) (get38 Q (12 + 4 * i) (fromS S i s) _ w916 hbl0 hfr (by omega)) ?_
      rintro _ w37 ⟨rfl, hb37⟩
      have hS917 := hS916.add0 hb37
      refine ⟨hS917, ?_⟩
      replace hr1 := hr1.new hb37
      replace hr2 := hr2.new hb37
      replace hr4 := hr4.new hb37
      replace hv := hv.new hb37
      replace hrs := hrs.new hb37
      replace hB := hB.acc hb37
      replace hBr := hBr.acc hb37
      refine WA_one 9 (by kernel_rfl) ?_
      refine WO_ent rfl rfl (rn_call (by kernel_rfl) rfl) (get38 Q (12 + 4 * i + 2) (bod s).length _ w37 hbl0 hlg (by omega)) ?_
      rintro _ w42 ⟨rfl, hb42⟩
      have hS918 := hS917.add0 hb42
      refine ⟨hS918, ?_⟩
      replace hr1 := hr1.new hb42
      replace hr2 := hr2.new hb42
      replace hr4 := hr4.new hb42
      replace hv := hv.new hb42
      replace hrs := hrs.new hb42
      replace hB := hB.acc hb42
      replace hBr := hBr.acc hb42
      refine WA_take 10 (by kernel_rfl) rfl (fun _ _ => rn_assign) ?_
      refine WA_take 11 (by kernel_rfl) rfl (fun _ _ => rn_assign) ?_
      refine WA_done (by kernel_rfl) ?_
      refine thenN ?_
      refine W_seq ?_
      refine W_seq ?_
      have hdec : decide ((fromS S i s : Int) + ((bod s).length : Int) > 0) = s.isSome := by
        cases s with
        | none => simp [fromS, bod]
        | some r =>
          have hbr : (bod (some r)).length = r.length := rfl
          have hff : fromS S i (some r) = 512 - lenS (S.take i) - r.length := rfl
          rw [Option.isSome_some, decide_eq_true_eq]
          omega
      refine W_region ?_
      refine WR_val rfl (rn_move) ?_
      refine WR_val rfl (rn_move) ?_
      refine WR_val rfl (rn_add rfl rfl (Coup.w64 (by omega))) ?_
      refine WR_val rfl (rn_gtr rfl rfl) ?_
      refine WR_nil ?_
      refine thenN ?_
      refine W_fp rfl ((by omega)) ?_
      refine W_skip ?_
      refine thenN ?_
      refine W_seq ?_
      refine W_region ?_
      refine WR_val rfl (rn_move) ?_
      refine WR_val rfl (rn_move) ?_
      refine WR_val rfl (rn_add rfl rfl (Coup.w64 (by omega))) ?_
      refine WR_val rfl (rn_gtr rfl rfl) ?_
      refine WR_val rfl (rn_built1 (.bool s.isSome) [.bool s.isSome, .slice none 0 0] (vb hdec) (by kernel_rfl)) ?_
      have hv9 := hv
      have hrs9 := hrs
      refine WR_mk rfl (mk_alloc ([Value.bool false, Value.slice none 0 0]) (by kernel_rfl) (fun g9 w9 hg9 hr9 hb9 => ?_))
      have ge_hB_g9 := Nat.le_trans hB.size hg9
      have ge_hBr_g9 := Nat.le_trans hBr.size hg9
      have lt_g1_g9 : g1 < g9 := Nat.lt_of_lt_of_le hr1.lt hg9
      have lt_g2_g9 : g2 < g9 := Nat.lt_of_lt_of_le hr2.lt hg9
      have lt_g4_g9 : g4 < g9 := Nat.lt_of_lt_of_le hr4.lt hg9
      replace hr1 := hr1.new hb9
      replace hr2 := hr2.new hb9
      replace hr4 := hr4.new hb9
      replace hv := hv.new hb9
      replace hrs := hrs.new hb9
      replace hB := hB.acc hb9
      replace hBr := hBr.acc hb9
      replace hrs := ((hrs9.avoid (o' := (Value.ownBlock (.slice p i c)).toList ++ [g4, g2, g9]) (fun g hm => by
        rcases List.mem_append.1 hm with e | e
        · exact Or.inl (List.mem_append_left _ e)
        · simp only [List.mem_cons, List.not_mem_nil, or_false] at e
          rcases e with e | e | e
          · exact Or.inl (List.mem_append_right _ (by simp [e]))
          · exact Or.inl (List.mem_append_right _ (by simp [e]))
          · exact Or.inr (by omega))).new hb9)
      have hne9 : Value.ownBlock (.slice p i c) ≠ some g9 := fun e => by have := (hvl0 g9 e).2; have := ge_hBr_g9; omega
      refine WR_sk rfl (sk_storeA 2 ([.bool s.isSome, .slice none 0 0]) rfl rfl hr9 (by kernel_rfl) (by first | assumption | (simp; done) | (simp [bv_length, *]; done)) (by first | assumption | (simp; done) | (simp [bv_length, *]; done) | rfl) (by first | exact bv_one _ | assumption | (simp [Value.oneCell']; done)) (fun w919 hr9 ho919 => ?_))
      replace hr1 := hr1.only ho919 (Nat.ne_of_lt lt_g1_g9)
      replace hr2 := hr2.only ho919 (Nat.ne_of_lt lt_g2_g9)
      replace hr4 := hr4.only ho919 (Nat.ne_of_lt lt_g4_g9)
      replace hrs := hrs.only ho919 (by simp)
      replace hB := ho919.below hB ge_hB_g9
      replace hBr := ho919.below hBr ge_hBr_g9
      replace hv := ownsAt.onlyN hv ho919 hne9
      refine WR_nil ?_
      refine thenN ?_
      refine W_seq ?_
      refine W_seq ?_
      refine W_region ?_
      refine WR_val rfl (rn_assign) ?_
      refine WR_nil ?_
      refine thenN ?_
      refine W_block ?_
      obtain ⟨B2, hB2⟩ : ∃ B2, w919.heap.size = B2 := ⟨_, rfl⟩
      have g9B : g9 < B2 := by rw [← hB2]; exact hr9.lt
      have hBB2 : B ≤ B2 := by have := hBr.size; omega
      have hK0 := KpB.refl [g9] w919
      have hvB : ∀ k, Value.ownBlock (.slice p i c) = some k → k < B2 := fun k e => by have := (hvl0 k e).2; have := hBr.size; omega
      have hv0 := hv
      have hrs0 := hrs
      have h20 := hr2
      have h40 := hr4
      have g29 : g2 ≠ g9 := by omega
      have g49 : g4 ≠ g9 := by omega
      refine W_loop (α := Nat × Option Addr × Nat) (0, none, 0) (fun k => [(10, .int .i64 (k.1 : Nat)), (7, .int .i64 (fromS S i s : Nat)), (8, .int .i64 ((bod s).length : Nat)), (6, .int .i64 (i : Nat)), (5, .int .i64 (n : Nat)), (1, .pointer (some ⟨g1, 0, none⟩)), (2, .pointer (some ⟨g2, 0, none⟩)), (4, .pointer (some ⟨g4, 0, none⟩)), (9, .pointer (some ⟨g9, 0, none⟩))])
        (fun k w' => k.1 ≤ (bod s).length ∧ row w' g1 (bv Q) 23 ∧ row w' g9 [.bool s.isSome, .slice k.2.1 k.1 k.2.2] 69 ∧ ownsAt w' B2 5 1 (.slice k.2.1 k.1 k.2.2) k.1 (bv ((bod s).take k.1)) ∧ KpB [g9] w919 w' ∧ Below w.heap.size w w') (fun k => (bod s).length - k.1)
        ⟨rfl, rfl, rfl, rfl, rfl, rfl, rfl, rfl, rfl, rfl⟩ ⟨Nat.zero_le _, hr1, hr9, ownsAt_nil _ _ _ _, hK0, hB⟩ ?_
      obtain ⟨W2, hW2⟩ : ∃ W2, w919 = W2 := ⟨_, rfl⟩
      rw [hW2] at hB2 hv0 hrs0 h20 h40
      rw [hW2]
      clear hr1 hr2 hr4 hr9 hB hv hrs hBr hK0
      rintro ⟨k, p9, c9⟩ f2 wz ⟨hkl, hr1, hr9, hv9, hK, hB⟩
      simp only at hkl hr9 hv9
      have hv9l := hv9.lt
      have hB9 := hB.size
      have hK9 := hK.k.size
      have hn9 : Value.ownBlock (.slice p9 k c9) ≠ some g9 := fun e => by have := (hv9l g9 e).1; omega
      refine W_seq ?_
      refine W_seq ?_
      refine W_region ?_
      refine WR_val rfl (rn_move) ?_
      refine WR_val rfl (rn_move) ?_
      refine WR_val rfl (rn_lss rfl rfl) ?_
      refine WR_nil ?_
      refine thenN ?_
      refine W_ifp rfl (fun hlk => ?_) (fun hlk => ?_)
      ·
        refine W_skip ?_
        refine thenN ?_
        refine W_seq ?_
        refine W_block ?_
        have hobt : ∃ b, (bod s)[k]? = some b := ⟨_, List.getElem?_eq_getElem (by omega)⟩
        obtain ⟨b, hb⟩ := hobt
        have hQb := hrec k b hb
        have hn1 : Value.ownBlock (.slice p9 k c9) ≠ some g1 := fun e => by have := (hv9l g1 e).1; omega
        have hg19 : ¬ g1 = g9 := by omega
        refine W_draw' (g9 :: (Value.slice p9 k c9).ownBlock.toList) (by kernel_rfl) ?_
        intro w920 hb920 hS920
        replace hr1 := hr1.new hb920
        replace hr9 := hr9.new hb920
        replace hK := hK.new hb920
        replace hv9 := hv9.new hb920
        replace hB := hB.acc hb920
        have hr1_d920 := hr1
        have hr9_d920 := hr9
        have hK_d920 := hK
        have hv9_d920 := hv9
        have hB_d920 := hB
        refine WA_take 0 (by kernel_rfl) rfl (fun _ _ => rn_fieldAddr (off := 1) (by kernel_rfl) rfl) ?_
        refine WA_take 2 (by kernel_rfl) rfl (fun _ _ => rn_move) ?_
        refine WA_take 3 (by kernel_rfl) rfl (fun _ _ => rn_move) ?_
        refine WA_take 4 (by kernel_rfl) rfl (fun _ _ => rn_add rfl rfl (Coup.w64 (by omega))) ?_
        refine WA_take 5 (by kernel_rfl) rfl (fun _ _ => rn_indexAr1 (e := 5) (m := 512) (by kernel_rfl) rfl rfl (fromS S i s + k) (by omega) (by omega)) ?_
        refine WA_take 6 (by kernel_rfl) rfl (fun w' hS' => rn_load rfl (Ld.row1 (hr1_d920.kpd hS' (by first | (simp; done) | (simp; omega) | (simp [*]; done))) (by kernel_rfl) (show (bv Q)[0 + (fromS S i s + k)]? = some (.int .u8 (b.toNat : Int)) by rw [Nat.zero_add, bv, List.getElem?_map, hQb]; rfl))) ?_
        refine WA_two 1 7 (by kernel_rfl) ?_ ?_
        ·
          refine WO_val rfl rfl (rn_load rfl (Ld.row1 hr9 (by kernel_rfl) rfl)) hS920 ?_
          refine WA_one 7 (by kernel_rfl) ?_
          refine WO_mk rfl rfl (mk_one (e := 5) (.int .u8 (b.toNat : Int)) ([.int .u8 (b.toNat : Int)]) ([Value.int .u8 0]) 1 (by kernel_rfl) (by kernel_rfl) rfl rfl rfl ⟨by decide, by decide⟩ (fun g65 w65 hg65 hr65 hb65 => ?_))
          have hS922 := hS920.add0 hb65
          refine ⟨hS922, ?_⟩
          have ge_hS920_g65 := Nat.le_trans hS920.size hg65
          have ge_hB_g65 := Nat.le_trans hB.size hg65
          have lt_g1_g65 : g1 < g65 := Nat.lt_of_lt_of_le hr1.lt hg65
          have lt_g9_g65 : g9 < g65 := Nat.lt_of_lt_of_le hr9.lt hg65
          replace hr1 := hr1.new hb65
          replace hr9 := hr9.new hb65
          replace hK := hK.new hb65
          replace hv9 := hv9.new hb65
          replace hB := hB.acc hb65
          refine WA_one 8 (by kernel_rfl) ?_
          have hs65 := hr65.slA (m := 1) (sz := 1) rfl (by omega)
          have hK66 := hK.k.size
          have sz_hB_66 := hB.size
          refine WO_mk rfl rfl (mk_append (e := 5) (sz := 1) (bytes := 1) (z := Value.int .u8 0) (by kernel_rfl) rfl (by kernel_rfl) rfl (by decide) rfl hv9 rfl hs65 (by simp [Value.oneCell']) (by unfold maxLen; omega) (by omega) (fun hm0 => by omega) (fun v66 w66 hv66 hgr66 hfr66 => ?_))
          have hS923 := hS922.ownS hv9 hgr66 (by first | (left; omega) | exact Or.inr (fun _ h => h) | exact Or.inr (fun _ h => List.mem_cons_of_mem _ h))
          refine ⟨hS923, ?_⟩
          replace hr1 := hr1.own hv9 hgr66 (by omega)
          replace hr9 := hr9.own hv9 hgr66 (by omega)
          replace hK := hK.own hv9 hgr66 (by omega)
          replace hB := hB.own hv9 hgr66 (by omega)
          have hform := hv66.form
          obtain ⟨p66, c66, rfl⟩ := hform
          refine WA_take 9 (by kernel_rfl) rfl (fun _ _ => rn_fieldAddr (off := 1) (by kernel_rfl) rfl) ?_
          refine WA_one 10 (by kernel_rfl) ?_
          refine WO_sk rfl rfl (sk_store1 rfl rfl rfl rfl hr9 (by kernel_rfl) (by first | (simp only [List.length_replicate]; omega) | (simp only [iv_length]; omega) | (simp only [bv_length, List.length_set]; omega) | simp) (fun w925 hr9 ho925 => ?_))
          have hS924 := hS923.add1 ho925 (by first | (left; omega) | (right; simp; done) | (right; simp; omega))
          refine ⟨hS924, ?_⟩
          replace hr1 := hr1.only ho925 (Nat.ne_of_lt lt_g1_g9)
          replace hK := hK.only ho925 (by simp)
          replace hv66 := hv66.only ho925 (by omega)
          replace hB := ho925.below hB ge_hB_g9
          refine WA_done (by kernel_rfl) ?_
          refine blockN ?_
          refine thenN ?_
          refine W_region ?_
          refine WR_val rfl (rn_move) ?_
          refine WR_val rfl (rn_add rfl rfl (Coup.w64 (by omega))) ?_
          refine WR_val rfl (rn_assign) ?_
          refine WR_nil ?_
          refine loopN ⟨(k + 1, p66, c66), by simp only; omega, ⟨by go_num, rfl, rfl, rfl, rfl, rfl, rfl, rfl, rfl, rfl⟩, by simp only; omega, hr1, hr9, ?_, hK, hB⟩
          simp only
          rw [List.take_add_one, hb, bv_append]
          exact hv66
        ·
          refine WO_mk rfl rfl (mk_one (e := 5) (.int .u8 (b.toNat : Int)) ([.int .u8 (b.toNat : Int)]) ([Value.int .u8 0]) 1 (by kernel_rfl) (by kernel_rfl) rfl rfl rfl ⟨by decide, by decide⟩ (fun g65 w65 hg65 hr65 hb65 => ?_))
          have hS926 := hS920.add0 hb65
          refine ⟨hS926, ?_⟩
          have ge_hS920_g65 := Nat.le_trans hS920.size hg65
          have ge_hB_g65 := Nat.le_trans hB.size hg65
          have lt_g1_g65 : g1 < g65 := Nat.lt_of_lt_of_le hr1.lt hg65
          have lt_g9_g65 : g9 < g65 := Nat.lt_of_lt_of_le hr9.lt hg65
          replace hr1 := hr1.new hb65
          replace hr9 := hr9.new hb65
          replace hK := hK.new hb65
          replace hv9 := hv9.new hb65
          replace hB := hB.acc hb65
          refine WA_one 1 (by kernel_rfl) ?_
          refine WO_val rfl rfl (rn_load rfl (Ld.row1 hr9 (by kernel_rfl) rfl)) hS926 ?_
          refine WA_one 8 (by kernel_rfl) ?_
          have hs65 := hr65.slA (m := 1) (sz := 1) rfl (by omega)
          have hK66 := hK.k.size
          have sz_hB_66 := hB.size
          refine WO_mk rfl rfl (mk_append (e := 5) (sz := 1) (bytes := 1) (z := Value.int .u8 0) (by kernel_rfl) rfl (by kernel_rfl) rfl (by decide) rfl hv9 rfl hs65 (by simp [Value.oneCell']) (by unfold maxLen; omega) (by omega) (fun hm0 => by omega) (fun v66 w66 hv66 hgr66 hfr66 => ?_))
          have hS928 := hS926.ownS hv9 hgr66 (by first | (left; omega) | exact Or.inr (fun _ h => h) | exact Or.inr (fun _ h => List.mem_cons_of_mem _ h))
          refine ⟨hS928, ?_⟩
          replace hr1 := hr1.own hv9 hgr66 (by omega)
          replace hr9 := hr9.own hv9 hgr66 (by omega)
          replace hK := hK.own hv9 hgr66 (by omega)
          replace hB := hB.own hv9 hgr66 (by omega)
          have hform := hv66.form
          obtain ⟨p66, c66, rfl⟩ := hform
          refine WA_take 9 (by kernel_rfl) rfl (fun _ _ => rn_fieldAddr (off := 1) (by kernel_rfl) rfl) ?_
          refine WA_one 10 (by kernel_rfl) ?_
          refine WO_sk rfl rfl (sk_store1 rfl rfl rfl rfl hr9 (by kernel_rfl) (by first | (simp only [List.length_replicate]; omega) | (simp only [iv_length]; omega) | (simp only [bv_length, List.length_set]; omega) | simp) (fun w930 hr9 ho930 => ?_))
          have hS929 := hS928.add1 ho930 (by first | (left; omega) | (right; simp; done) | (right; simp; omega))
          refine ⟨hS929, ?_⟩
          replace hr1 := hr1.only ho930 (Nat.ne_of_lt lt_g1_g9)
          replace hK := hK.only ho930 (by simp)
          replace hv66 := hv66.only ho930 (by omega)
          replace hB := ho930.below hB ge_hB_g9
          refine WA_done (by kernel_rfl) ?_
          refine blockN ?_
          refine thenN ?_
          refine W_region ?_
          refine WR_val rfl (rn_move) ?_
          refine WR_val rfl (rn_add rfl rfl (Coup.w64 (by omega))) ?_
          refine WR_val rfl (rn_assign) ?_
          refine WR_nil ?_
          refine loopN ⟨(k + 1, p66, c66), by simp only; omega, ⟨by go_num, rfl, rfl, rfl, rfl, rfl, rfl, rfl, rfl, rfl⟩, by simp only; omega, hr1, hr9, ?_, hK, hB⟩
          simp only
          rw [List.take_add_one, hb, bv_append]
          exact hv66
      ·
        obtain rfl : k = (bod s).length := by omega
        rw [List.take_of_length_le (Nat.le_refl _)] at hv9
        have hv := hv0.kpd hK.k (fun g hm e => by simp at hm; rw [hm] at e; exact hne9 e)
        have hrs := hrs0.kpd hK.k (fun g hm => by simp at hm; simp [hm])
        have hr2 := h20.kpd hK.k (by simpa using g29)
        have hr4 := h40.kpd hK.k (by simpa using g49)
        have hsl9 := hv9.sl
        replace hrs := (hrs.avoid (o' := (Value.ownBlock (.slice p i c)).toList ++ [g4, g2]) (fun g hm => Or.inl ((List.mem_append.1 hm).elim (fun e => List.mem_append_left _ e) (fun e => List.mem_append_right _ (by simp at e; rcases e with e | e <;> simp [e]))))).snoc (s := s) (c := c9) hsl9 (fun h0 b off e => by
          have h1 := hv9l b (by rw [e]; rfl)
          refine ⟨h1.2, fun hm => ?_⟩
          rcases List.mem_append.1 hm with e | e
          · have := hvB b (Option.mem_toList.1 e); omega
          · simp at e; omega)
        rw [← hts] at hrs
        refine W_exit ?_
        refine thenX ?_
        refine loopX ?_
        refine blockX ?_
        refine thenN ?_
        refine W_region ?_
        refine WR_val rfl (rn_fieldAddr (off := 2) (by kernel_rfl) rfl) ?_
        refine WR_val rfl (rn_load rfl (Ld.row1 hr4 (by kernel_rfl) rfl)) ?_
        refine WR_val rfl (rn_load rfl (Ld.rowA (k := 2) hr9 (by kernel_rfl) (by kernel_rfl) (by first | (simp; done) | (simp [bv_length, *]; done) | assumption))) ?_
        refine WR_mk rfl (mk_one (e := 69) (.agg #[.bool s.isSome, .slice p9 (bod s).length c9]) ([.bool s.isSome, .slice p9 (bod s).length c9]) ([Value.bool false, Value.slice none 0 0]) 2 (by kernel_rfl) (by kernel_rfl) rfl rfl (by first | rfl | (simp; done) | (simp [bv_length, *]; done)) ⟨by decide, by decide⟩ (fun g71 w71 hg71 hr71 hb71 => ?_))
        have ge_hB_g71 := Nat.le_trans hB.size hg71
        have lt_g1_g71 : g1 < g71 := Nat.lt_of_lt_of_le hr1.lt hg71
        have lt_g9_g71 : g9 < g71 := Nat.lt_of_lt_of_le hr9.lt hg71
        have lt_g2_g71 : g2 < g71 := Nat.lt_of_lt_of_le hr2.lt hg71
        have lt_g4_g71 : g4 < g71 := Nat.lt_of_lt_of_le hr4.lt hg71
        replace hr1 := hr1.new hb71
        replace hr9 := hr9.new hb71
        replace hK := hK.new hb71
        replace hr2 := hr2.new hb71
        replace hr4 := hr4.new hb71
        replace hv := hv.new hb71
        replace hrs := hrs.new hb71
        replace hB := hB.acc hb71
        have hs71 := hr71.slA (m := 1) (sz := 2) rfl (by omega)
        have hK72 := hK.k.size
        have sz_hB_72 := hB.size
        refine WR_mk rfl (mk_append (e := 69) (sz := 2) (bytes := 32) (z := .agg ([Value.bool false, Value.slice none 0 0]).toArray) (by kernel_rfl) rfl (by kernel_rfl) rfl (by decide) rfl hv rfl hs71 (by simp [Value.oneCell']) (by unfold maxLen; omega) (by omega) (fun hm0 => by omega) (fun v72 w72 hv72 hgr72 hfr72 => ?_))
        replace hr1 := hr1.own hv hgr72 (by omega)
        replace hr2 := hr2.own hv hgr72 (by omega)
        replace hr4 := hr4.own hv hgr72 (by omega)
        replace hB := hB.own hv hgr72 (by omega)
        have hform := hv72.form
        obtain ⟨p72, c72, rfl⟩ := hform
        replace hrs := hrs.growL hgr72 hfr72
        refine WR_val rfl (rn_fieldAddr (off := 2) (by kernel_rfl) rfl) ?_
        refine WR_sk rfl (sk_store1 rfl rfl rfl rfl hr4 (by kernel_rfl) (by first | (simp only [List.length_replicate]; omega) | (simp only [iv_length]; omega) | (simp only [bv_length, List.length_set]; omega) | simp) (fun w931 hr4 ho931 => ?_))
        replace hr1 := hr1.only ho931 (by omega)
        replace hr2 := hr2.only ho931 (by omega)
        replace hv72 := hv72.only ho931 (by omega)
        replace hrs := hrs.only ho931 (by simp)
        replace hB := ho931.below hB (by omega)
        refine WR_nil ?_
        refine blockN ?_
        refine thenN ?_
        refine W_region ?_
        refine WR_val rfl (rn_move) ?_
        refine WR_val rfl (rn_add rfl rfl (Coup.w64 (by omega))) ?_
        refine WR_val rfl (rn_assign) ?_
        refine WR_nil ?_
        refine loopN ⟨(i + 1, p72, c72, fl ++ [.bool s.isSome, .slice p9 (bod s).length c9]), by simp only; omega, ⟨by go_num, rfl, rfl, rfl, rfl, rfl⟩, by simp only; omega, hr1, hr2, hr4, hv72, hrs, by have h := hv72.form' (by omega); obtain ⟨_, _, _, _, h1, h2, _⟩ := h; omega, hB⟩
    ·
      obtain rfl : i = n := by omega
      rw [show S.take i = S from List.take_of_length_le (by omega)] at hrs
      have hMy := fun (w' : World) (h1 : SlAt w' p i 2 fl) (h2 : RsAt w' ((Value.ownBlock (.slice p i c)).toList ++ [g4, g2]) fl S) => rmay39 V p c fl w' _ (by rw [hn]; exact h1) (by rw [hS]; exact h2) hV
      have hBy := fun (w' : World) (h1 : SlAt w' p i 2 fl) (h2 : RsAt w' ((Value.ownBlock (.slice p i c)).toList ++ [g4, g2]) fl S) => rbytes34 V p c fl w' _ (by rw [hn]; exact h1) (by rw [hS]; exact h2) (by omega) hnx hz
      rw [hn] at hMy hBy
      rw [hQ] at hBy
      refine W_exit ?_
      refine thenX ?_
      refine loopX ?_
      refine blockX ?_
      refine thenN ?_
      refine W_seq ?_
      refine W_seq ?_
      refine W_draw' [] (by kernel_rfl) ?_
      intro w932 hb932 hS932
      replace hr1 := hr1.new hb932
      replace hr2 := hr2.new hb932
      replace hr4 := hr4.new hb932
      replace hv := hv.new hb932
      replace hrs := hrs.new hb932
      replace hB := hB.acc hb932
      have hr1_d932 := hr1
      have hr2_d932 := hr2
      have hr4_d932 := hr4
      have hv_d932 := hv
      have hrs_d932 := hrs
      have hB_d932 := hB
      refine WA_take 0 (by kernel_rfl) rfl (fun w' hS' => rn_load rfl (Ld.rowA (k := 3) (hr4_d932.kpd hS' (by first | (simp; done) | (simp; omega) | (simp [*]; done))) (by kernel_rfl) (by kernel_rfl) (by first | (simp; done) | (simp [bv_length, *]; done) | assumption))) ?_
      refine WA_one 1 (by kernel_rfl) ?_
      refine WO_ent rfl rfl (rn_call (by kernel_rfl) rfl) (hMy w932 hv.sl hrs) ?_
      rintro _ w75 ⟨rfl, hb75⟩
      have hS933 := hS932.add0 hb75
      refine ⟨hS933, ?_⟩
      replace hr1 := hr1.new hb75
      replace hr2 := hr2.new hb75
      replace hr4 := hr4.new hb75
      replace hv := hv.new hb75
      replace hrs := hrs.new hb75
      replace hB := hB.acc hb75
      refine WA_take 2 (by kernel_rfl) rfl (fun _ _ => rn_not rfl) ?_
      refine WA_take 3 (by kernel_rfl) rfl (fun _ _ => rn_move) ?_
      refine WA_fnb 77 rfl (rfl) ?_
      refine WA_take 4 (by kernel_rfl) rfl (fun w' hS' => rn_load rfl (Ld.rowA (k := 3) (hr4_d932.kpd hS' (by first | (simp; done) | (simp; omega) | (simp [*]; done))) (by kernel_rfl) (by kernel_rfl) (by first | (simp; done) | (simp [bv_length, *]; done) | assumption))) ?_
      refine WA_take 6 (by kernel_rfl) rfl (fun w' hS' => rn_load rfl (Ld.rowA (k := 512) (hr1_d932.kpd hS' (by first | (simp; done) | (simp; omega) | (simp [*]; done))) (by kernel_rfl) (by kernel_rfl) (by first | (simp; done) | (simp [bv_length, *]; done) | assumption))) ?_
      refine WA_one 5 (by kernel_rfl) ?_
      refine WO_ent rfl rfl (rn_call (by kernel_rfl) rfl) (hBy w75 hv.sl hrs) ?_
      rintro _ w79 ⟨rfl, hb79⟩
      have hS934 := hS933.add0 hb79
      refine ⟨hS934, ?_⟩
      replace hr1 := hr1.new hb79
      replace hr2 := hr2.new hb79
      replace hr4 := hr4.new hb79
      replace hv := hv.new hb79
      replace hrs := hrs.new hb79
      replace hB := hB.acc hb79
      refine WA_take 7 (by kernel_rfl) rfl (fun _ _ => rn_neqA (n := 512) (by kernel_rfl) rfl rfl (by simp [*]) (by simp [*])) ?_
      refine WA_take 8 (by kernel_rfl) rfl (fun _ _ => rn_pick_f rfl) ?_
      refine WA_done (by kernel_rfl) ?_
      refine thenN ?_
      refine W_fn rfl ((by simp)) ?_
      refine W_skip ?_
      refine thenN ?_
      refine W_seq ?_
      refine W_region ?_
      refine WR_val rfl (rn_load rfl (Ld.rowA (k := 3) hr4 (by kernel_rfl) (by kernel_rfl) (by first | (simp; done) | (simp [bv_length, *]; done) | assumption))) ?_
      refine WR_sk rfl (sk_storeA 3 ([.int .i64 (V.kind : Int), .int .i64 (V.next : Int), .slice p i c]) rfl rfl hr2 (by kernel_rfl) (by first | assumption | (simp; done) | (simp [bv_length, *]; done)) (by first | assumption | (simp; done) | (simp [bv_length, *]; done) | rfl) (by first | exact bv_one _ | assumption | (simp [Value.oneCell']; done)) (fun w935 hr2 ho935 => ?_))
      replace hr1 := hr1.only ho935 (Nat.ne_of_lt lt_g1_g2)
      replace hr4 := hr4.only ho935 (by omega)
      replace hv := hv.only ho935 (by omega)
      replace hrs := hrs.only ho935 (by simp)
      replace hB := ho935.below hB ge_hB_g2
      refine WR_val rfl (rn_assign) ?_
      refine WR_nil ?_
      refine thenN ?_
      refine W_ret ?_
      refine ret_ret [_, _] ⟨⟨_, rfl, Ld.rowA (k := 3) hr2 (by kernel_rfl) (by kernel_rfl) (by first | (simp; done) | (simp [bv_length, *]; done) | assumption)⟩, rfl, trivial⟩ ?_
      exact ⟨p, c, fl, rfl, hv.sl, by rw [hS]; exact hrs.avoid (fun g hm => by cases hm), hB⟩
end Go.Proofs.Ytjdcopfnhkfimaa
