/- Which slot is free, and has a slot a record. -/
import Derived.Test.YtjdcopfnhkfimaaVm14
import Derived.Test.YtjdcopfnhkfimaaPageC
namespace Go.Proofs.Ytjdcopfnhkfimaa
open Go Go.RowKit Coup

theorem nil37 (q : Option Addr) (n c : Nat) (w : World) : Calls Try.prog 37 [.slice q n c].toArray w (Ret fun v w' => v = .bool q.isNone ∧ w = w') := by
  refine calls_W (fn := Try.f37) (rs := [.tmp 2]) (n := 5) Try.func37 rfl rfl Try.ntmps37 (by kernel_rfl) rfl ?_
  refine W_seq ?_
  refine W_region ?_
  refine WR_val rfl (rn_assign) ?_
  refine WR_nil ?_
  refine thenN ?_
  refine W_seq ?_
  refine W_region ?_
  refine WR_val rfl (rn_move) ?_
  refine WR_val rfl (rn_eqlNil (e := 5) (by kernel_rfl) rfl rfl) ?_
  refine WR_val rfl (rn_assign) ?_
  refine WR_nil ?_
  refine thenN ?_
  refine W_ret ?_
  refine ret_ret [_] ⟨rfl, trivial⟩ ?_
  exact ⟨rfl, rfl⟩
def hasV (S : List (Option (List UInt8))) (i : Int) : Bool := decide (0 ≤ i) && (S.getD i.toNat none).isSome
set_option maxHeartbeats 1000000 in
theorem has26 (V : View) (p : Option Addr) (c : Nat) (vs : List Value) (k : Int) (w : World) (lo : Nat) (o : List Nat) (h : SlAt w p V.slots.length 1 vs) (hs : SltsAt w lo o vs V.slots) :
    Calls Try.prog 26 [.agg #[.int .i64 (V.kind : Int), .int .i64 (V.next : Int), .slice p V.slots.length c], .int .i64 k].toArray w (Ret fun v w' => v = .bool (hasV V.slots k) ∧ Below w.heap.size w w') := by
  have hB := Below.refl w.heap.size w
  obtain ⟨S, hS⟩ : ∃ S, V.slots = S := ⟨_, rfl⟩
  rw [hS] at h hs ⊢
  refine calls_W (fn := Try.f26) (rs := [.tmp 4]) (n := 22) Try.func26 rfl rfl Try.ntmps26 (by kernel_rfl) rfl ?_
  refine W_seq ?_
  refine W_region ?_
  refine WR_mk rfl (mk_box ([_, _, _]) rfl (fun g2 w2 hg2 hr2 hb2 => ?_))
  have ge_hB_g2 := Nat.le_trans hB.size hg2
  replace hB := hB.acc hb2
  refine WR_val rfl (rn_assign) ?_
  refine WR_nil ?_
  refine thenN ?_
  refine W_seq ?_
  refine W_region ?_
  refine WR_val rfl (rn_move) ?_
  refine WR_val rfl (rn_geq rfl rfl) ?_
  refine WR_val rfl (rn_move) ?_
  refine WR_part 7 rfl (fun h0 => ?_) (fun h0 => ?_)
  ·
    refine WR_yes rfl ?_
    refine WR_val rfl (rn_move) ?_
    refine WR_yes rfl ?_
    refine WR_val rfl (rn_fieldAddr (off := 2) (by kernel_rfl) rfl) ?_
    refine WR_yes rfl ?_
    refine WR_val rfl (rn_load rfl (Ld.row1 hr2 (by kernel_rfl) rfl)) ?_
    refine WR_yes rfl ?_
    refine WR_val rfl (rn_lenSl (e := 29) (sz := 1) (by kernel_rfl) rfl rfl) ?_
    refine WR_yes rfl ?_
    refine WR_val rfl (rn_lss rfl rfl) ?_
    refine WR_val rfl (rn_pick_t rfl) ?_
    refine WR_val rfl (rn_move) ?_
    refine WR_part 14 rfl (fun h1 => ?_) (fun h1 => ?_)
    ·
      refine WR_yes rfl ?_
      refine WR_val rfl (rn_fieldAddr (off := 2) (by kernel_rfl) rfl) ?_
      refine WR_yes rfl ?_
      refine WR_val rfl (rn_load rfl (Ld.row1 hr2 (by kernel_rfl) rfl)) ?_
      refine WR_yes rfl ?_
      refine WR_val rfl (rn_move) ?_
      refine WR_yes rfl ?_
      have hobt : ∃ i : Nat, k = i := ⟨k.toNat, by omega⟩
      obtain ⟨i, rfl⟩ := hobt
      have hobt : ∃ s, S[i]? = some s := ⟨_, List.getElem?_eq_getElem (by omega)⟩
      obtain ⟨s, hsi⟩ := hobt
      have hvv := hs.val hsi
      obtain ⟨q, cq, hv, hq, hqn⟩ := hvv
      have hobt := h.some (by omega)
      obtain ⟨g, off, rfl, hg⟩ := hobt
      refine WR_val rfl (rn_indexSl1 (e := 29) (by kernel_rfl) rfl rfl (i) (by omega) (by omega)) ?_
      refine WR_yes rfl ?_
      refine WR_val rfl (rn_load rfl (Ld.sl1 (h.below hB (Nat.le_refl _)) (by kernel_rfl) hv)) ?_
      refine WR_yes rfl ?_
      refine WR_val rfl (rn_neqNil (e := 5) (by kernel_rfl) rfl rfl) ?_
      refine WR_val rfl (rn_pick_t rfl) ?_
      refine WR_val rfl (rn_assign) ?_
      refine WR_nil ?_
      refine thenN ?_
      refine W_ret ?_
      refine ret_ret [_] ⟨rfl, trivial⟩ ?_
      refine ⟨vb ?_, hB⟩
      rw [hasV, Int.toNat_natCast, List.getD_eq_getElem?_getD, hsi, decide_eq_true (by omega)]
      cases s <;> cases q <;> simp_all
    ·
      refine WR_no rfl rfl ?_
      refine WR_no rfl rfl ?_
      refine WR_no rfl rfl ?_
      refine WR_no rfl rfl ?_
      refine WR_no rfl rfl ?_
      refine WR_no rfl rfl ?_
      refine WR_val rfl (rn_pick_f rfl) ?_
      refine WR_val rfl (rn_assign) ?_
      refine WR_nil ?_
      refine thenN ?_
      refine W_ret ?_
      refine ret_ret [_] ⟨rfl, trivial⟩ ?_
      refine ⟨vb ?_, hB⟩
      rw [hasV, List.getD_eq_getElem?_getD, List.getElem?_eq_none (by omega)]
      simp
  ·
    refine WR_no rfl rfl ?_
    refine WR_no rfl rfl ?_
    refine WR_no rfl rfl ?_
    refine WR_no rfl rfl ?_
    refine WR_no rfl rfl ?_
    refine WR_val rfl (rn_pick_f rfl) ?_
    refine WR_val rfl (rn_move) ?_
    refine WR_no rfl rfl ?_
    refine WR_no rfl rfl ?_
    refine WR_no rfl rfl ?_
    refine WR_no rfl rfl ?_
    refine WR_no rfl rfl ?_
    refine WR_no rfl rfl ?_
    refine WR_val rfl (rn_pick_f rfl) ?_
    refine WR_val rfl (rn_assign) ?_
    refine WR_nil ?_
    refine thenN ?_
    refine W_ret ?_
    refine ret_ret [_] ⟨rfl, trivial⟩ ?_
    refine ⟨vb ?_, hB⟩
    rw [hasV, decide_eq_false (by omega)]; rfl
def freeV (S : List (Option (List UInt8))) : Nat := S.findIdx fun s => s.isNone
theorem freeV_is {S : List (Option (List UInt8))} {i : Nat} (h : S[i]? = some none) (hf : i ≤ freeV S) : freeV S = i := by
  obtain ⟨hl, he⟩ := List.getElem?_eq_some_iff.1 h
  rcases Nat.lt_or_eq_of_le hf with h1 | h1
  · have := List.not_of_lt_findIdx h1
    rw [he] at this; simp at this
  · exact h1.symm
theorem freeV_gt {S : List (Option (List UInt8))} {i : Nat} {r : List UInt8} (h : S[i]? = some (some r)) (hf : i ≤ freeV S) : i + 1 ≤ freeV S := by
  obtain ⟨hl, he⟩ := List.getElem?_eq_some_iff.1 h
  rcases Nat.lt_or_eq_of_le hf with h1 | h1
  · exact h1
  · exfalso
    have h2 : freeV S < S.length := by omega
    have := List.findIdx_getElem (p := fun s : Option (List UInt8) => s.isNone) (xs := S) (w := h2)
    have e : S[List.findIdx (fun s : Option (List UInt8) => s.isNone) S]'h2 = some r := by
      have h3 : S[freeV S]? = some (some r) := by rw [← h1]; exact h
      exact (List.getElem?_eq_some_iff.1 h3).2
    rw [e] at this; simp at this
set_option maxHeartbeats 1000000 in
theorem index36 (S : List (Option (List UInt8))) (p : Option Addr) (c : Nat) (vs : List Value) (w : World) (lo : Nat) (o : List Nat) (h : SlAt w p S.length 1 vs) (hs : SltsAt w lo o vs S) :
    Calls Try.prog 36 [.slice p S.length c, .func (.func 37) #[] #[]].toArray w (Ret fun v w' => v = .int .i64 (if freeV S < S.length then (freeV S : Int) else -1) ∧ Below w.heap.size w w') := by
  have hB := Below.refl w.heap.size w
  have hml : maxLen = 9223372036854775807 := by decide
  have hmax := h.max
  refine calls_W (fn := Try.f36) (rs := [.tmp 4]) (n := 19) Try.func36 rfl rfl Try.ntmps36 (by kernel_rfl) rfl ?_
  refine W_seq ?_
  refine W_region ?_
  refine WR_val rfl (rn_assign) ?_
  refine WR_nil ?_
  refine thenN ?_
  refine W_seq ?_
  refine W_seq ?_
  refine W_region ?_
  refine WR_val rfl (rn_move) ?_
  refine WR_val rfl (rn_lenSl (e := 29) (sz := 1) (by kernel_rfl) rfl rfl) ?_
  refine WR_val rfl (rn_move) ?_
  refine WR_nil ?_
  refine thenN ?_
  refine W_block ?_
  refine W_loop (α := Nat) 0 (fun k => [(8, .int .i64 (k : Nat)), (7, .int .i64 (S.length : Nat)), (0, .slice p S.length c), (1, .func (.func 37) #[] #[])]) (fun k w' => k ≤ S.length ∧ k ≤ freeV S ∧ Below w.heap.size w w') (fun k => S.length - k)
    ⟨rfl, rfl, rfl, rfl, rfl⟩ ⟨Nat.zero_le _, Nat.zero_le _, hB⟩ ?_
  rintro i f wr ⟨hi, hfr, hB⟩
  refine W_seq ?_
  refine W_region ?_
  refine WR_val rfl (rn_lss rfl rfl) ?_
  refine WR_nil ?_
  refine thenN ?_
  refine W_seq ?_
  refine W_ifp rfl (fun hlt => ?_) (fun hlt => ?_)
  ·
    refine W_skip ?_
    refine thenN ?_
    refine W_seq ?_
    refine W_block ?_
    refine W_seq ?_
    refine W_region ?_
    refine WR_val rfl (rn_move) ?_
    refine WR_val rfl (rn_assign) ?_
    refine WR_nil ?_
    refine thenN ?_
    refine W_seq ?_
    have hobt : ∃ s, S[i]? = some s := ⟨_, List.getElem?_eq_getElem (by omega)⟩
    obtain ⟨s, hsi⟩ := hobt
    have hvv := hs.val hsi
    obtain ⟨q, cq, hv, hq, hqn⟩ := hvv
    have hobt := h.some (by omega)
    obtain ⟨g, off, rfl, hg⟩ := hobt
    refine W_region ?_
    refine WR_val rfl (rn_move) ?_
    refine WR_val rfl (rn_move) ?_
    refine WR_val rfl (rn_move) ?_
    refine WR_val rfl (rn_indexSl1 (e := 29) (by kernel_rfl) rfl rfl (i) (by omega) (by omega)) ?_
    refine WR_val rfl (rn_load rfl (Ld.sl1 (h.below hB (Nat.le_refl _)) (by kernel_rfl) hv)) ?_
    refine WR_ent rfl (rn_callf (by kernel_rfl) rfl rfl) (nil37 q (bod s).length cq wr) ?_
    rintro _ _ ⟨rfl, rfl⟩
    refine WR_nil ?_
    refine thenN ?_
    refine W_if rfl (fun hq0 => ?_) (fun hq0 => ?_)
    ·
      refine W_seq ?_
      refine W_region ?_
      refine WR_val rfl (rn_move) ?_
      refine WR_val rfl (rn_assign) ?_
      refine WR_nil ?_
      refine thenN ?_
      refine W_ret ?_
      refine blockR ?_
      refine thenR ?_
      refine loopR ?_
      refine blockR ?_
      refine thenR ?_
      refine ret_ret [_] ⟨rfl, trivial⟩ ?_
      have hs0 : s = none := by rw [hqn]; cases q with | none => rfl | some a => simp at hq0
      rw [hs0] at hsi
      have hfi := freeV_is hsi hfr
      refine ⟨?_, hB⟩
      rw [if_pos (by omega), hfi]; rfl
    ·
      obtain ⟨r, hr⟩ : ∃ r, s = some r := by
        cases s with
        | none => rw [hqn.1 rfl] at hq0; simp at hq0
        | some r => exact ⟨r, rfl⟩
      rw [hr] at hsi
      have hfg := freeV_gt hsi hfr
      refine W_skip ?_
      refine blockN ?_
      refine thenN ?_
      refine W_region ?_
      refine WR_val rfl (rn_add rfl rfl (Coup.w64 (by omega))) ?_
      refine WR_val rfl (rn_move) ?_
      refine WR_nil ?_
      refine loopN ⟨i + 1, by omega, ⟨rfl, rfl, rfl, rfl, rfl⟩, by omega, hfg, hB⟩
  ·
    obtain rfl : i = S.length := by omega
    refine W_exit ?_
    refine thenX ?_
    refine loopX ?_
    refine blockX ?_
    refine thenN ?_
    refine W_seq ?_
    refine W_region ?_
    refine WR_val rfl (rn_assign) ?_
    refine WR_nil ?_
    refine thenN ?_
    refine W_ret ?_
    refine ret_ret [_] ⟨rfl, trivial⟩ ?_
    refine ⟨?_, hB⟩
    rw [if_neg (by omega)]; rfl
theorem free23 (V : View) (p : Option Addr) (c : Nat) (vs : List Value) (w : World) (lo : Nat) (o : List Nat) (h : SlAt w p V.slots.length 1 vs) (hs : SltsAt w lo o vs V.slots) :
    Calls Try.prog 23 [.agg #[.int .i64 (V.kind : Int), .int .i64 (V.next : Int), .slice p V.slots.length c]].toArray w (Ret fun v w' => v = .int .i64 (freeV V.slots : Nat) ∧ Below w.heap.size w w') := by
  have hB := Below.refl w.heap.size w
  have hle : freeV V.slots ≤ V.slots.length := List.findIdx_le_length
  obtain ⟨S, hS⟩ : ∃ S, V.slots = S := ⟨_, rfl⟩
  rw [hS] at h hs hle ⊢
  obtain ⟨F, hF⟩ : ∃ F : Int, (if freeV S < S.length then (freeV S : Int) else -1) = F := ⟨_, rfl⟩
  have hI := index36 S p c vs
  rw [hF] at hI
  refine calls_W (fn := Try.f23) (rs := [.tmp 2]) (n := 13) Try.func23 rfl rfl Try.ntmps23 (by kernel_rfl) rfl ?_
  refine W_seq ?_
  refine W_region ?_
  refine WR_mk rfl (mk_box ([_, _, _]) rfl (fun g1 w1 hg1 hr1 hb1 => ?_))
  have ge_hB_g1 := Nat.le_trans hB.size hg1
  replace hB := hB.acc hb1
  refine WR_val rfl (rn_assign) ?_
  refine WR_nil ?_
  refine thenN ?_
  refine W_seq ?_
  refine W_seq ?_
  refine W_region ?_
  refine WR_val rfl (rn_fieldAddr (off := 2) (by kernel_rfl) rfl) ?_
  refine WR_val rfl (rn_load rfl (Ld.row1 hr1 (by kernel_rfl) rfl)) ?_
  refine WR_ent rfl (rn_call (by kernel_rfl) rfl) (hI w1 lo o (h.below hB (Nat.le_refl _)) (hs.new hB)) ?_
  rintro _ w6 ⟨rfl, hb6⟩
  replace hr1 := hr1.new hb6
  replace hB := hB.acc hb6
  refine WR_val rfl (rn_assign) ?_
  refine WR_nil ?_
  refine thenN ?_
  refine W_seq ?_
  refine W_region ?_
  refine WR_val rfl (rn_move) ?_
  refine WR_val rfl (rn_geq rfl rfl) ?_
  refine WR_nil ?_
  refine thenN ?_
  refine W_ifp rfl (fun hge => ?_) (fun hge => ?_)
  ·
    refine W_seq ?_
    refine W_region ?_
    refine WR_val rfl (rn_move) ?_
    refine WR_val rfl (rn_assign) ?_
    refine WR_nil ?_
    refine thenN ?_
    refine W_ret ?_
    refine thenR ?_
    refine ret_ret [_] ⟨rfl, trivial⟩ ?_
    refine ⟨vi ?_, hB⟩
    rw [← hF] at hge ⊢
    split at hge
    · rename_i h1; rw [if_pos h1]
    · omega
  ·
    refine W_skip ?_
    refine thenN ?_
    refine W_seq ?_
    refine W_region ?_
    refine WR_val rfl (rn_fieldAddr (off := 2) (by kernel_rfl) rfl) ?_
    refine WR_val rfl (rn_load rfl (Ld.row1 hr1 (by kernel_rfl) rfl)) ?_
    refine WR_val rfl (rn_lenSl (e := 29) (sz := 1) (by kernel_rfl) rfl rfl) ?_
    refine WR_val rfl (rn_assign) ?_
    refine WR_nil ?_
    refine thenN ?_
    refine W_ret ?_
    refine ret_ret [_] ⟨rfl, trivial⟩ ?_
    refine ⟨vi ?_, hB⟩
    rw [← hF] at hge
    split at hge <;> omega
end Go.Proofs.Ytjdcopfnhkfimaa
