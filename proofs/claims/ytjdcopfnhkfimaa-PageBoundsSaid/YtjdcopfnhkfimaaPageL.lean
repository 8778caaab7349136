/- The reference's pages in memory; their size, the free slot, has a slot a record; numbers of two bytes. -/
import Derived.Test.YtjdcopfnhkfimaaPageK
namespace Go.Proofs.Ytjdcopfnhkfimaa
open Go Go.RowKit Coup

/-- The reference's slots, two cells each. -/
structure RsAt (w : World) (o : List Nat) (fl : List Value) (S : List (Option (List UInt8))) : Prop where
  len : fl.length = S.length * 2
  at_ : ∀ (i : Nat) s, S[i]? = some s → fl[i * 2]? = some (.bool s.isSome) ∧ ∃ p c, fl[i * 2 + 1]? = some (.slice p (bod s).length c) ∧ SlAt w p (bod s).length 1 (bv (bod s)) ∧ (0 < (bod s).length → ∀ b off, p = some ⟨b, off, none⟩ → b < w.heap.size ∧ b ∉ o)
theorem _root_.Coup.SlAt.kpz {w w' : World} {M : List Nat} {p : Option Addr} {m sz : Nat} {cs : List Value} (h : SlAt w p m sz cs) (k : Kp M w w') (hM : 0 < m → ∀ b o, p = some ⟨b, o, none⟩ → b ∉ M) : SlAt w' p m sz cs := by
  rcases Nat.eq_zero_or_pos m with h0 | h0
  · exact ⟨h.len, h.max, fun h1 => by rw [h0, Nat.zero_mul] at h1; omega⟩
  · exact h.kpd k (hM h0)
namespace RsAt
variable {w w' : World} {o : List Nat} {fl : List Value} {S : List (Option (List UInt8))}
theorem nil (w : World) (o : List Nat) : RsAt w o [] [] := ⟨rfl, fun i s h => by simp at h⟩
theorem kp {M : List Nat} (h : RsAt w o fl S) (k : Kp M w w') (hM : ∀ g, g ∈ M → w.heap.size ≤ g ∨ g ∈ o) : RsAt w' o fl S := ⟨h.len, fun i s hs => by
  obtain ⟨h1, p, c, h2, h3, h4⟩ := h.at_ i s hs
  refine ⟨h1, p, c, h2, h3.kpz k fun h0 b off e hm => ?_, fun h0 b off e => ⟨Nat.lt_of_lt_of_le (h4 h0 b off e).1 k.size, (h4 h0 b off e).2⟩⟩
  have h5 := h4 h0 b off e
  rcases hM b hm with h6 | h6
  · omega
  · exact h5.2 h6⟩
theorem new (h : RsAt w o fl S) (hb : Below w.heap.size w w') : RsAt w' o fl S := h.kp (M := []) (Kp.of_below hb) (by simp)
theorem kpd {M : List Nat} (h : RsAt w o fl S) (k : Kp M w w') (hM : ∀ g, g ∈ M → g ∈ o) : RsAt w' o fl S := h.kp k fun g hm => Or.inr (hM g hm)
theorem only {g : Nat} (h : RsAt w o fl S) (ho : Only g w w') (hg : g ∈ o) : RsAt w' o fl S := h.kpd (Kp.of_only ho) fun g' hm => by
  have : g' = g := by simpa using hm
  rw [this]; exact hg
theorem avoid {o' : List Nat} (h : RsAt w o fl S) (ho : ∀ g, g ∈ o' → g ∈ o ∨ w.heap.size ≤ g) : RsAt w o' fl S := ⟨h.len, fun i s hs => by
  obtain ⟨h1, p, c, h2, h3, h4⟩ := h.at_ i s hs
  refine ⟨h1, p, c, h2, h3, fun h0 b off e => ⟨(h4 h0 b off e).1, fun hm => ?_⟩⟩
  have h5 := h4 h0 b off e
  rcases ho b hm with h6 | h6
  · exact h5.2 h6
  · omega⟩
end RsAt
set_option maxHeartbeats 1000000 in
theorem rsize33 (V : View) (p : Option Addr) (c : Nat) (fl : List Value) (w : World) (o : List Nat) (h : SlAt w p V.slots.length 2 fl) (hs : RsAt w o fl V.slots) (hb : sizeV V ≤ 1000000) (k : Int) :
    Calls Try.prog 33 [.agg #[.int .i64 (V.kind : Int), .int .i64 k, .slice p V.slots.length c]].toArray w (Ret fun v w' => v = .int .i64 (sizeV V : Int) ∧ Below w.heap.size w w') := by
  have hB := Below.refl w.heap.size w
  have hml : maxLen = 9223372036854775807 := by decide
  obtain ⟨S, hS⟩ : ∃ S, V.slots = S := ⟨_, rfl⟩
  have hz : sizeV V = 12 + 4 * S.length + lenS S := by rw [sizeV, hS]
  rw [hz] at hb ⊢
  rw [hS] at h hs ⊢
  refine calls_W (fn := Try.f33) (rs := [.tmp 2]) (n := 27) Try.func33 rfl rfl Try.ntmps33 (by kernel_rfl) rfl ?_
  refine W_seq ?_
  refine W_region ?_
  refine WR_mk rfl (mk_box ([_, _, _]) rfl (fun g1 w1 hg1 hr1 hb1 => ?_))
  have ge_hB_g1 := Nat.le_trans hB.size hg1
  replace hB := hB.acc hb1
  refine WR_val rfl (rn_assign) ?_
  refine WR_nil ?_
  refine thenN ?_
  refine W_seq ?_
  refine W_region ?_
  refine WR_val rfl (rn_fieldAddr (off := 2) (by kernel_rfl) rfl) ?_
  refine WR_val rfl (rn_load rfl (Ld.row1 hr1 (by kernel_rfl) rfl)) ?_
  refine WR_val rfl (rn_lenSl (e := 69) (sz := 2) (by kernel_rfl) rfl rfl) ?_
  refine WR_val rfl (rn_mul rfl rfl (Coup.w64 (by omega))) ?_
  refine WR_val rfl (rn_add rfl rfl (Coup.w64 (by omega))) ?_
  refine WR_val rfl (rn_assign) ?_
  refine WR_nil ?_
  refine thenN ?_
  refine W_seq ?_
  refine W_seq ?_
  refine W_region ?_
  refine WR_val rfl (rn_assign) ?_
  refine WR_nil ?_
  refine thenN ?_
  refine W_block ?_
  have hw1 : w.heap.size ≤ g1 := by omega
  refine W_loop (α := Nat) 0 (fun i => [(4, .int .i64 (i : Nat)), (1, .pointer (some ⟨g1, 0, none⟩)), (3, .int .i64 ((12 + 4 * S.length + lenS (S.take i) : Nat) : Int))]) (fun i w' => i ≤ S.length ∧ row w' g1 [.int .i64 (V.kind : Int), .int .i64 k, .slice p S.length c] 57 ∧ Below w.heap.size w w') (fun i => S.length - i)
    ⟨rfl, rfl, vi (by simp [lenS]), rfl⟩ ⟨Nat.zero_le _, hr1, hB⟩ ?_
  clear hr1 hB
  rintro i f wr ⟨hi, hr1, hB⟩
  have hlt1 := lenS_take S i
  refine W_seq ?_
  refine W_seq ?_
  refine W_region ?_
  refine WR_val rfl (rn_move) ?_
  refine WR_val rfl (rn_fieldAddr (off := 2) (by kernel_rfl) rfl) ?_
  refine WR_val rfl (rn_load rfl (Ld.row1 hr1 (by kernel_rfl) rfl)) ?_
  refine WR_val rfl (rn_lenSl (e := 69) (sz := 2) (by kernel_rfl) rfl rfl) ?_
  refine WR_val rfl (rn_lss rfl rfl) ?_
  refine WR_nil ?_
  refine thenN ?_
  refine W_ifp rfl (fun hlt => ?_) (fun hlt => ?_)
  ·
    refine W_skip ?_
    refine thenN ?_
    refine W_seq ?_
    refine W_block ?_
    have hobt : ∃ s, S[i]? = some s := ⟨_, List.getElem?_eq_getElem (by omega)⟩
    obtain ⟨s, hsi⟩ := hobt
    have hvv := (hs.at_ i s hsi).2
    obtain ⟨q, cq, hv, hq, _⟩ := hvv
    have hobt := h.some (by omega)
    obtain ⟨g, off, rfl, hg⟩ := hobt
    have hsn := lenS_snoc hsi
    have hlt2 := lenS_take S (i + 1)
    refine W_region ?_
    refine WR_val rfl (rn_move) ?_
    refine WR_val rfl (rn_fieldAddr (off := 2) (by kernel_rfl) rfl) ?_
    refine WR_val rfl (rn_load rfl (Ld.row1 hr1 (by kernel_rfl) rfl)) ?_
    refine WR_val rfl (rn_move) ?_
    refine WR_val rfl (rn_indexSl (e := 69) (sz := 2) (by kernel_rfl) rfl rfl (i) (by omega) (by omega)) ?_
    refine WR_val rfl (rn_fieldAddr (off := 1) (by kernel_rfl) rfl) ?_
    refine WR_val rfl (rn_load rfl (Ld.sl1 (off := off) (j := i * 2 + 1) (h.below hB (Nat.le_refl _)) (by kernel_rfl) hv)) ?_
    refine WR_val rfl (rn_lenSl (e := 5) (sz := 1) (by kernel_rfl) rfl rfl) ?_
    refine WR_val rfl (rn_add rfl rfl (Coup.w64 (by omega))) ?_
    refine WR_val rfl (rn_assign) ?_
    refine WR_nil ?_
    refine blockN ?_
    refine thenN ?_
    refine W_region ?_
    refine WR_val rfl (rn_move) ?_
    refine WR_val rfl (rn_add rfl rfl (Coup.w64 (by omega))) ?_
    refine WR_val rfl (rn_assign) ?_
    refine WR_nil ?_
    refine loopN ⟨i + 1, by omega, ⟨by go_num, rfl, vi (by omega), rfl⟩, by omega, hr1, hB⟩
  ·
    obtain rfl : i = S.length := by omega
    rw [List.take_of_length_le (Nat.le_refl _)]
    refine W_exit ?_
    refine thenX ?_
    refine loopX ?_
    refine blockX ?_
    refine thenN ?_
    refine W_seq ?_
    refine W_region ?_
    refine WR_val rfl (rn_move) ?_
    refine WR_val rfl (rn_assign) ?_
    refine WR_nil ?_
    refine thenN ?_
    refine W_ret ?_
    refine ret_ret [_] ⟨rfl, trivial⟩ ?_
    exact ⟨rfl, hB⟩
set_option maxHeartbeats 1000000 in
theorem rfree29 (V : View) (p : Option Addr) (c : Nat) (fl : List Value) (w : World) (o : List Nat) (h : SlAt w p V.slots.length 2 fl) (hs : RsAt w o fl V.slots) :
    Calls Try.prog 29 [.agg #[.int .i64 (V.kind : Int), .int .i64 (V.next : Int), .slice p V.slots.length c]].toArray w (Ret fun v w' => v = .int .i64 (freeV V.slots : Nat) ∧ Below w.heap.size w w') := by
  have hB := Below.refl w.heap.size w
  have hml : maxLen = 9223372036854775807 := by decide
  have hmax := h.max
  have hle : freeV V.slots ≤ V.slots.length := List.findIdx_le_length
  obtain ⟨S, hS⟩ : ∃ S, V.slots = S := ⟨_, rfl⟩
  rw [hS] at h hs hle hmax ⊢
  refine calls_W (fn := Try.f29) (rs := [.tmp 2]) (n := 20) Try.func29 rfl rfl Try.ntmps29 (by kernel_rfl) rfl ?_
  refine W_seq ?_
  refine W_region ?_
  refine WR_mk rfl (mk_box ([_, _, _]) rfl (fun g1 w1 hg1 hr1 hb1 => ?_))
  have ge_hB_g1 := Nat.le_trans hB.size hg1
  replace hB := hB.acc hb1
  refine WR_val rfl (rn_assign) ?_
  refine WR_nil ?_
  refine thenN ?_
  refine W_seq ?_
  refine W_region ?_
  refine WR_val rfl (rn_assign) ?_
  refine WR_nil ?_
  refine thenN ?_
  refine W_seq ?_
  refine W_block ?_
  refine W_loop (α := Nat) 0 (fun i => [(3, .int .i64 (i : Nat)), (1, .pointer (some ⟨g1, 0, none⟩))]) (fun i w' => i ≤ S.length ∧ i ≤ freeV S ∧ row w' g1 [.int .i64 (V.kind : Int), .int .i64 (V.next : Int), .slice p S.length c] 57 ∧ Below w.heap.size w w') (fun i => S.length - i)
    ⟨rfl, rfl, rfl⟩ ⟨Nat.zero_le _, Nat.zero_le _, hr1, hB⟩ ?_
  clear hr1 hB
  rintro i f wr ⟨hi, hfr, hr1, hB⟩
  refine W_seq ?_
  refine W_seq ?_
  refine W_region ?_
  refine WR_val rfl (rn_move) ?_
  refine WR_val rfl (rn_fieldAddr (off := 2) (by kernel_rfl) rfl) ?_
  refine WR_val rfl (rn_load rfl (Ld.row1 hr1 (by kernel_rfl) rfl)) ?_
  refine WR_val rfl (rn_lenSl (e := 69) (sz := 2) (by kernel_rfl) rfl rfl) ?_
  refine WR_val rfl (rn_lss rfl rfl) ?_
  refine WR_val rfl (rn_move) ?_
  refine WR_part 9 rfl (fun hlt => ?_) (fun hlt => ?_)
  ·
    refine WR_yes rfl ?_
    refine WR_val rfl (rn_fieldAddr (off := 2) (by kernel_rfl) rfl) ?_
    refine WR_yes rfl ?_
    have hobt : ∃ s, S[i]? = some s := ⟨_, List.getElem?_eq_getElem (by omega)⟩
    obtain ⟨s, hsi⟩ := hobt
    have hvv := (hs.at_ i s hsi).1
    have hobt := h.some (by omega)
    obtain ⟨g, off, rfl, hg⟩ := hobt
    refine WR_val rfl (rn_load rfl (Ld.row1 hr1 (by kernel_rfl) rfl)) ?_
    refine WR_yes rfl ?_
    refine WR_val rfl (rn_move) ?_
    refine WR_yes rfl ?_
    refine WR_val rfl (rn_indexSl (e := 69) (sz := 2) (by kernel_rfl) rfl rfl (i) (by omega) (by omega)) ?_
    refine WR_yes rfl ?_
    refine WR_val rfl (rn_fieldAddr (off := 0) (by kernel_rfl) rfl) ?_
    refine WR_yes rfl ?_
    refine WR_val rfl (rn_load rfl (Ld.sl1 (off := off) (j := i * 2) (h.below hB (Nat.le_refl _)) (by kernel_rfl) hvv)) ?_
    refine WR_val rfl (rn_pick_t rfl) ?_
    refine WR_nil ?_
    refine thenN ?_
    refine W_if rfl (fun hq0 => ?_) (fun hq0 => ?_)
    ·
      refine W_skip ?_
      refine thenN ?_
      refine W_block ?_
      refine W_region ?_
      refine WR_val rfl (rn_move) ?_
      refine WR_val rfl (rn_add rfl rfl (Coup.w64 (by omega))) ?_
      refine WR_val rfl (rn_assign) ?_
      refine WR_nil ?_
      refine blockN ?_
      obtain ⟨r, rfl⟩ := Option.isSome_iff_exists.1 hq0
      have hfg := freeV_gt hsi hfr
      refine loopN ⟨i + 1, by omega, ⟨by go_num, rfl, rfl⟩, by omega, hfg, hr1, hB⟩
    ·
      have hs0 : s = none := by cases s with | none => rfl | some r => cases hq0
      rw [hs0] at hsi
      have hfi := freeV_is hsi hfr
      refine W_exit ?_
      refine thenX ?_
      refine loopX ?_
      refine blockX ?_
      refine thenN ?_
      refine W_seq ?_
      refine W_region ?_
      refine WR_val rfl (rn_move) ?_
      refine WR_val rfl (rn_assign) ?_
      refine WR_nil ?_
      refine thenN ?_
      refine W_ret ?_
      refine ret_ret [_] ⟨rfl, trivial⟩ ?_
      refine ⟨vi ?_, hB⟩
      rw [hfi]
  ·
    obtain rfl : i = S.length := by omega
    have hfi : freeV S = S.length := by omega
    refine WR_no rfl rfl ?_
    refine WR_no rfl rfl ?_
    refine WR_no rfl rfl ?_
    refine WR_no rfl rfl ?_
    refine WR_no rfl rfl ?_
    refine WR_no rfl rfl ?_
    refine WR_val rfl (rn_pick_f rfl) ?_
    refine WR_nil ?_
    refine thenN ?_
    refine W_f rfl ?_
    refine W_exit ?_
    refine thenX ?_
    refine loopX ?_
    refine blockX ?_
    refine thenN ?_
    refine W_seq ?_
    refine W_region ?_
    refine WR_val rfl (rn_move) ?_
    refine WR_val rfl (rn_assign) ?_
    refine WR_nil ?_
    refine thenN ?_
    refine W_ret ?_
    refine ret_ret [_] ⟨rfl, trivial⟩ ?_
    refine ⟨vi ?_, hB⟩
    rw [hfi]
end Go.Proofs.Ytjdcopfnhkfimaa
