/- How many bytes a view has. -/
import Derived.Test.YtjdcopfnhkfimaaPageB
namespace Go.Proofs.Ytjdcopfnhkfimaa
open Go Go.RowKit Coup

theorem lenS_snoc {S : List (Option (List UInt8))} {i : Nat} {s : Option (List UInt8)} (h : S[i]? = some s) : lenS (S.take (i + 1)) = lenS (S.take i) + (bod s).length := by
  rw [List.take_add_one, h, lenS_app]
  simp [lenS]
theorem lenS_take (S : List (Option (List UInt8))) (i : Nat) : lenS (S.take i) ≤ lenS S := by
  have := lenS_app (S.take i) (S.drop i)
  rw [List.take_append_drop] at this
  omega
/-- The value of a slot: nil, or a slice of its record. -/
theorem SltsAt.val {w : World} {lo : Nat} {o : List Nat} {vs : List Value} {S : List (Option (List UInt8))} (h : SltsAt w lo o vs S) {i : Nat} {s : Option (List UInt8)} (hs : S[i]? = some s) :
    ∃ p c, vs[i]? = some (.slice p (bod s).length c) ∧ SlAt w p (bod s).length 1 (bv (bod s)) ∧ (s = none ↔ p = none) := by
  cases s with
  | none => exact ⟨none, 0, h.no i hs, SlAt.nil _ _ _, by simp⟩
  | some r =>
    obtain ⟨b, off, c, h1, h2, _⟩ := h.yes i r hs
    exact ⟨_, c, h1, h2, by simp⟩
set_option maxHeartbeats 1000000 in
theorem size25 (V : View) (p : Option Addr) (c : Nat) (vs : List Value) (w : World) (lo : Nat) (o : List Nat) (h : SlAt w p V.slots.length 1 vs) (hs : SltsAt w lo o vs V.slots) (hb : sizeV V ≤ 1000000) :
    Calls Try.prog 25 [.agg #[.int .i64 (V.kind : Int), .int .i64 (V.next : Int), .slice p V.slots.length c]].toArray w (Ret fun v w' => v = .int .i64 (sizeV V : Int) ∧ Below w.heap.size w w') := by
  have hB := Below.refl w.heap.size w
  have hml : maxLen = 9223372036854775807 := by decide
  obtain ⟨S, hS⟩ : ∃ S, V.slots = S := ⟨_, rfl⟩
  have hz : sizeV V = 12 + 4 * S.length + lenS S := by rw [sizeV, hS]
  rw [hz] at hb ⊢
  rw [hS] at h hs ⊢
  refine calls_W (fn := Try.f25) (rs := [.tmp 2]) (n := 24) Try.func25 rfl rfl Try.ntmps25 (by kernel_rfl) rfl ?_
  refine W_seq ?_
  refine W_region ?_
  refine WR_mk rfl (mk_box ([_, _, _]) rfl (fun g1 w1 hg1 hr1 hb1 => ?_))
  have ge_hB_g1 := Nat.le_trans hB.size hg1
  replace hB := hB.acc hb1
  refine WR_val rfl (rn_assign) ?_
  refine WR_nil ?_
  refine thenN ?_
  refine W_seq ?_
  refine W_region ?_
  refine WR_val rfl (rn_fieldAddr (off := 2) (by kernel_rfl) rfl) ?_
  refine WR_val rfl (rn_load rfl (Ld.row1 hr1 (by kernel_rfl) rfl)) ?_
  refine WR_val rfl (rn_lenSl (e := 29) (sz := 1) (by kernel_rfl) rfl rfl) ?_
  refine WR_val rfl (rn_mul rfl rfl (Coup.w64 (by omega))) ?_
  refine WR_val rfl (rn_add rfl rfl (Coup.w64 (by omega))) ?_
  refine WR_val rfl (rn_assign) ?_
  refine WR_nil ?_
  refine thenN ?_
  refine W_seq ?_
  refine W_seq ?_
  refine W_region ?_
  refine WR_val rfl (rn_fieldAddr (off := 2) (by kernel_rfl) rfl) ?_
  refine WR_val rfl (rn_load rfl (Ld.row1 hr1 (by kernel_rfl) rfl)) ?_
  refine WR_val rfl (rn_lenSl (e := 29) (sz := 1) (by kernel_rfl) rfl rfl) ?_
  refine WR_val rfl (rn_move) ?_
  refine WR_nil ?_
  refine thenN ?_
  refine W_block ?_
  refine W_loop (α := Nat) 0 (fun k => [(14, .int .i64 (k : Nat)), (13, .int .i64 (S.length : Nat)), (12, .slice p S.length c), (3, .int .i64 ((12 + 4 * S.length + lenS (S.take k) : Nat) : Int))]) (fun k w' => k ≤ S.length ∧ Below w.heap.size w w') (fun k => S.length - k)
    ⟨rfl, rfl, rfl, vi (by simp [lenS]), rfl⟩ ⟨Nat.zero_le _, hB⟩ ?_
  rintro i f wr ⟨hi, hB⟩
  have hlt1 := lenS_take S i
  refine W_seq ?_
  refine W_region ?_
  refine WR_val rfl (rn_lss rfl rfl) ?_
  refine WR_nil ?_
  refine thenN ?_
  refine W_seq ?_
  refine W_ifp rfl (fun hlt => ?_) (fun hlt => ?_)
  ·
    refine W_skip ?_
    refine thenN ?_
    refine W_seq ?_
    refine W_block ?_
    refine W_seq ?_
    have hobt : ∃ s, S[i]? = some s := ⟨_, List.getElem?_eq_getElem (by omega)⟩
    obtain ⟨s, hsi⟩ := hobt
    have hvv := hs.val hsi
    obtain ⟨q, cq, hv, hq, hqn⟩ := hvv
    have hobt := h.some (by omega)
    obtain ⟨g, off, rfl, hg⟩ := hobt
    have hsn := lenS_snoc hsi
    have hlt2 := lenS_take S (i + 1)
    refine W_region ?_
    refine WR_val rfl (rn_indexSl1 (e := 29) (by kernel_rfl) rfl rfl (i) (by omega) (by omega)) ?_
    refine WR_val rfl (rn_load rfl (Ld.sl1 (h.below hB (Nat.le_refl _)) (by kernel_rfl) hv)) ?_
    refine WR_val rfl (rn_assign) ?_
    refine WR_nil ?_
    refine thenN ?_
    refine W_region ?_
    refine WR_val rfl (rn_move) ?_
    refine WR_val rfl (rn_move) ?_
    refine WR_val rfl (rn_lenSl (e := 5) (sz := 1) (by kernel_rfl) rfl rfl) ?_
    refine WR_val rfl (rn_add rfl rfl (Coup.w64 (by omega))) ?_
    refine WR_val rfl (rn_assign) ?_
    refine WR_nil ?_
    refine blockN ?_
    refine thenN ?_
    refine W_region ?_
    refine WR_val rfl (rn_add rfl rfl (Coup.w64 (by omega))) ?_
    refine WR_val rfl (rn_move) ?_
    refine WR_nil ?_
    refine loopN ⟨i + 1, by omega, ⟨rfl, rfl, rfl, vi (by omega), rfl⟩, by omega, hB⟩
  ·
    obtain rfl : i = S.length := by omega
    rw [List.take_of_length_le (Nat.le_refl _)]
    refine W_exit ?_
    refine thenX ?_
    refine loopX ?_
    refine blockX ?_
    refine thenN ?_
    refine W_seq ?_
    refine W_region ?_
    refine WR_val rfl (rn_move) ?_
    refine WR_val rfl (rn_assign) ?_
    refine WR_nil ?_
    refine thenN ?_
    refine W_ret ?_
    refine ret_ret [_] ⟨rfl, trivial⟩ ?_
    exact ⟨rfl, hB⟩
end Go.Proofs.Ytjdcopfnhkfimaa
