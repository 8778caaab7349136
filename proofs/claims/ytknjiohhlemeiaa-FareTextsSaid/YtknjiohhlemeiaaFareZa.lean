/- The reference's amount of a text. -/
import Derived.Test.YtknjiohhlemeiaaFareZ
namespace Go.Proofs.Ytknjiohhlemeiaa
open Go Go.RowKit Coup

def tlR (l : List UInt8) : List UInt8 := if l.head? = some 45 then l.drop 1 else l
def OkR (l : List UInt8) : Prop := 4 ≤ (tlR l).length ∧ (tlR l)[(tlR l).length - 3]? = some 46 ∧ ¬ (4 < (tlR l).length ∧ (tlR l)[0]? = some 48) ∧ l ≠ [45, 48, 46, 48, 48]
def FormR (l : List UInt8) : Prop := OkR l ∧ ∀ j b, (tlR l)[j]? = some b → j ≠ (tlR l).length - 3 → isDig b = true
def stepR (n : Int) (b : UInt8) : Int := if b ≠ 46 ∧ n ≤ 1000000000000 then 10 * n + ((b.toNat : Int) - 48) else n
def numR (l : List UInt8) : Int := l.foldl stepR 0
theorem u8_eq {b c : UInt8} : b = c ↔ (b.toNat : Int) = (c.toNat : Int) := ⟨fun h => by rw [h], fun h => UInt8.toNat_inj.1 (by omega)⟩
theorem u8_k {b : UInt8} {c : UInt8} {k : Int} (h : (b.toNat : Int) = k) (hk : (c.toNat : Int) = k) : b = c := u8_eq.2 (h.trans hk.symm)
set_option maxHeartbeats 1000000 in
theorem form38 (l : List UInt8) (w : World) (hl : l.length ≤ 100000) : Calls Try.prog 38 [strOf l].toArray w (Ret fun v w' => ∃ b, v = .bool b ∧ (b = true → FormR l) ∧ (b = false → ¬ FormR l) ∧ Below w.heap.size w w') := by
  have hB := Below.refl w.heap.size w
  have hml : maxLen = 9223372036854775807 := by decide
  have htl : (tlR l).length ≤ l.length := by unfold tlR; split <;> simp
  refine calls_W (fn := Try.f38) (rs := [.tmp 2]) (n := 61) Try.func38 rfl rfl Try.ntmps38 (by kernel_rfl) rfl ?_
  refine W_seq ?_
  refine W_region ?_
  refine WR_val rfl (rn_assign) ?_
  refine WR_nil ?_
  refine thenN ?_
  refine W_seq ?_
  refine W_region ?_
  refine WR_val rfl (rn_move) ?_
  refine WR_val rfl (rn_assign) ?_
  refine WR_nil ?_
  refine thenN ?_
  refine W_cut (fun _ : Unit => [(3, strOf (tlR l)), (0, strOf l)]) (fun _ w' => w = w') ?_ ?_
  ·
    refine W_seq ?_
    refine W_region ?_
    refine WR_val rfl (rn_move) ?_
    refine WR_val rfl (rn_neqS (a := l) (b := []) rfl rfl) ?_
    refine WR_val rfl (rn_move) ?_
    refine WR_partb 9 rfl (fun hne => ?_) (fun hne => ?_)
    ·
      refine WR_yes rfl ?_
      refine WR_val rfl (rn_move) ?_
      refine WR_yes rfl ?_
      have hobt : ∃ b, l[0]? = some b := by cases l with | nil => simp at hne | cons x l => exact ⟨x, rfl⟩
      obtain ⟨b0, hb0⟩ := hobt
      refine WR_val rfl (rn_byteS (by kernel_rfl) rfl rfl 0 rfl hb0) ?_
      refine WR_yes rfl ?_
      refine WR_val rfl (rn_eql rfl rfl) ?_
      refine WR_val rfl (rn_pick_t rfl) ?_
      refine WR_nil ?_
      refine thenN ?_
      refine W_ifp rfl (fun hneg => ?_) (fun hneg => ?_)
      ·
        have hhd : l.head? = some 45 := by rw [List.head?_eq_getElem?, hb0, u8_k (c := 45) hneg rfl]
        have hln : 1 ≤ l.length := by cases l with | nil => simp at hhd | cons x l => simp
        refine W_region ?_
        refine WR_val rfl (rn_move) ?_
        refine WR_val rfl (rn_sliceFrom 1 (by kernel_rfl) rfl ⟨_, _, rfl, rfl⟩ hln) ?_
        refine WR_val rfl (rn_assign) ?_
        refine WR_nil ?_
        refine loopN ⟨(), ⟨?_, rfl, rfl⟩, rfl⟩
        rw [tlR, if_pos hhd]; rfl
      ·
        have hhd : l.head? ≠ some 45 := by
          rw [List.head?_eq_getElem?, hb0]
          intro q
          rw [Option.some.inj q] at hneg
          exact hneg rfl
        refine W_skip ?_
        refine loopN ⟨(), ⟨?_, rfl, rfl⟩, rfl⟩
        rw [tlR, if_neg hhd]; rfl
    ·
      obtain rfl : l = [] := by simpa using hne
      refine WR_no rfl rfl ?_
      refine WR_no rfl rfl ?_
      refine WR_no rfl rfl ?_
      refine WR_val rfl (rn_pick_f rfl) ?_
      refine WR_nil ?_
      refine thenN ?_
      refine W_f rfl ?_
      refine W_skip ?_
      refine loopN ⟨(), ⟨rfl, rfl, rfl⟩, rfl⟩
  ·
    rintro - f _ rfl
    obtain ⟨t, ht⟩ : ∃ t, tlR l = t := ⟨_, rfl⟩
    rw [FormR, OkR, ht]
    rw [ht] at htl
    refine W_seq ?_
    refine W_region ?_
    refine WR_val rfl (rn_move) ?_
    refine WR_val rfl (rn_len_string (by kernel_rfl) rfl rfl) ?_
    refine WR_val rfl (rn_assign) ?_
    refine WR_nil ?_
    refine thenN ?_
    refine W_seq ?_
    refine W_cut (fun b : Bool => [(39, .bool b), (0, strOf l), (3, strOf t), (4, .int .i64 (t.length : Nat))]) (fun b w' => (b = true → ¬ (4 ≤ t.length ∧ t[t.length - 3]? = some 46 ∧ ¬ (4 < t.length ∧ t[0]? = some 48) ∧ l ≠ [45, 48, 46, 48, 48])) ∧ (b = false → (4 ≤ t.length ∧ t[t.length - 3]? = some 46 ∧ ¬ (4 < t.length ∧ t[0]? = some 48) ∧ l ≠ [45, 48, 46, 48, 48])) ∧ w = w') ?_ ?_
    ·
      refine W_region ?_
      refine WR_val rfl (rn_move) ?_
      refine WR_val rfl (rn_lss rfl rfl) ?_
      refine WR_val rfl (rn_move) ?_
      refine WR_part 20 rfl (fun h1 => ?_) (fun h1 => ?_)
      ·
        refine WR_no rfl rfl ?_
        refine WR_no rfl rfl ?_
        refine WR_no rfl rfl ?_
        refine WR_no rfl rfl ?_
        refine WR_no rfl rfl ?_
        refine WR_val rfl (rn_pick_t rfl) ?_
        refine WR_val rfl (rn_move) ?_
        refine WR_no rfl rfl ?_
        refine WR_no rfl rfl ?_
        refine WR_no rfl rfl ?_
        refine WR_nou rfl ?_
        refine WR_nou rfl ?_
        refine WR_nou rfl ?_
        refine WR_no rfl rfl ?_
        refine WR_val rfl (rn_pick_t rfl) ?_
        refine WR_val rfl (rn_move) ?_
        refine WR_no rfl rfl ?_
        refine WR_no rfl rfl ?_
        refine WR_val rfl (rn_pick_t rfl) ?_
        refine WR_nil ?_
        refine loopN ⟨true, ⟨rfl, rfl, rfl, rfl, rfl⟩, fun _ q => by omega, fun q => (by cases q), rfl⟩
      ·
        obtain ⟨b3, hb3⟩ : ∃ b, t[t.length - 3]? = some b := ⟨_, List.getElem?_eq_getElem (by omega)⟩
        obtain ⟨b0, hb0⟩ : ∃ b, t[0]? = some b := ⟨_, List.getElem?_eq_getElem (by omega)⟩
        refine WR_yes rfl ?_
        refine WR_val rfl (rn_move) ?_
        refine WR_yes rfl ?_
        refine WR_val rfl (rn_move) ?_
        refine WR_yes rfl ?_
        refine WR_val rfl (rn_sub rfl rfl (Coup.w64 (by omega))) ?_
        refine WR_yes rfl ?_
        refine WR_val rfl (rn_byteS (by kernel_rfl) rfl rfl (t.length - 3) (by omega) hb3) ?_
        refine WR_yes rfl ?_
        refine WR_val rfl (rn_neq rfl rfl) ?_
        refine WR_val rfl (rn_pick_f rfl) ?_
        refine WR_val rfl (rn_move) ?_
        refine WR_part 27 rfl (fun h2 => ?_) (fun h2 => ?_)
        ·
          refine WR_no rfl rfl ?_
          refine WR_no rfl rfl ?_
          refine WR_no rfl rfl ?_
          refine WR_nou rfl ?_
          refine WR_nou rfl ?_
          refine WR_nou rfl ?_
          refine WR_no rfl rfl ?_
          refine WR_val rfl (rn_pick_t rfl) ?_
          refine WR_val rfl (rn_move) ?_
          refine WR_no rfl rfl ?_
          refine WR_no rfl rfl ?_
          refine WR_val rfl (rn_pick_t rfl) ?_
          refine WR_nil ?_
          refine loopN ⟨true, ⟨rfl, rfl, rfl, rfl, rfl⟩, fun _ q => ?_, fun q => (by cases q), rfl⟩
          have := q.2.1
          rw [hb3] at this
          rw [Option.some.inj this] at h2
          exact h2 rfl
        ·
          have h2' : b3 = 46 := u8_k (c := 46) (k := 46) (by omega) rfl
          rw [h2'] at hb3
          refine WR_yes rfl ?_
          refine WR_val rfl (rn_move) ?_
          refine WR_yes rfl ?_
          refine WR_val rfl (rn_gtr rfl rfl) ?_
          refine WR_yes rfl ?_
          refine WR_val rfl (rn_move) ?_
          refine WR_part 30 rfl (fun h3 => ?_) (fun h3 => ?_)
          ·
            refine WR_yes rfl ?_
            refine WR_val rfl (rn_move) ?_
            refine WR_yes rfl ?_
            refine WR_val rfl (rn_byteS (by kernel_rfl) rfl rfl 0 rfl hb0) ?_
            refine WR_yes rfl ?_
            refine WR_val rfl (rn_eql rfl rfl) ?_
            refine WR_yes rfl ?_
            refine WR_val rfl (rn_pick_t rfl) ?_
            refine WR_val rfl (rn_pick_f rfl) ?_
            refine WR_val rfl (rn_move) ?_
            refine WR_part 36 rfl (fun h4 => ?_) (fun h4 => ?_)
            ·
              refine WR_no rfl rfl ?_
              refine WR_no rfl rfl ?_
              refine WR_val rfl (rn_pick_t rfl) ?_
              refine WR_nil ?_
              refine loopN ⟨true, ⟨rfl, rfl, rfl, rfl, rfl⟩, fun _ q => ?_, fun q => (by cases q), rfl⟩
              exact q.2.2.1 ⟨by omega, by rw [hb0, u8_k (b := b0) (c := 48) (k := 48) h4 rfl]⟩
            ·
              refine WR_yes rfl ?_
              refine WR_val rfl (rn_move) ?_
              refine WR_yes rfl ?_
              refine WR_val rfl (rn_eqlS (a := l) (b := [45, 48, 46, 48, 48]) rfl rfl) ?_
              refine WR_val rfl (rn_pick_f rfl) ?_
              refine WR_nil ?_
              refine loopN ⟨_, ⟨rfl, rfl, rfl, rfl, rfl⟩, fun q1 q => ?_, fun q1 => ?_, rfl⟩
              · exact q.2.2.2 (of_decide_eq_true q1)
              · refine ⟨by omega, hb3, fun q2 => ?_, of_decide_eq_false q1⟩
                rw [hb0] at q2
                rw [Option.some.inj q2.2] at h4
                exact h4 rfl
          ·
            refine WR_no rfl rfl ?_
            refine WR_no rfl rfl ?_
            refine WR_no rfl rfl ?_
            refine WR_yes rfl ?_
            refine WR_val rfl (rn_pick_f rfl) ?_
            refine WR_val rfl (rn_pick_f rfl) ?_
            refine WR_val rfl (rn_move) ?_
            refine WR_yes rfl ?_
            refine WR_val rfl (rn_move) ?_
            refine WR_yes rfl ?_
            refine WR_val rfl (rn_eqlS (a := l) (b := [45, 48, 46, 48, 48]) rfl rfl) ?_
            refine WR_val rfl (rn_pick_f rfl) ?_
            refine WR_nil ?_
            refine loopN ⟨_, ⟨rfl, rfl, rfl, rfl, rfl⟩, fun q1 q => ?_, fun q1 => ?_, rfl⟩
            · exact q.2.2.2 (of_decide_eq_true q1)
            · exact ⟨by omega, hb3, fun q2 => by omega, of_decide_eq_false q1⟩
    ·
      rintro bad f _ ⟨hbad1, hbad2, rfl⟩
      refine W_if rfl (fun hb => ?_) (fun hb => ?_)
      ·
        refine W_seq ?_
        refine W_region ?_
        refine WR_val rfl (rn_assign) ?_
        refine WR_nil ?_
        refine thenN ?_
        refine W_ret ?_
        refine thenR ?_
        refine ret_ret [_] ⟨rfl, trivial⟩ ?_
        exact ⟨false, rfl, fun q => (by cases q), fun _ q => hbad1 hb q.1, hB⟩
      ·
        have hok := hbad2 (by simpa using hb)
        refine W_skip ?_
        refine thenN ?_
        refine W_seq ?_
        refine W_seq ?_
        refine W_region ?_
        refine WR_val rfl (rn_assign) ?_
        refine WR_nil ?_
        refine thenN ?_
        refine W_block ?_
        refine W_loop (α := Nat) 0 (fun k => [(5, .int .i64 (k : Nat)), (4, .int .i64 (t.length : Nat)), (3, strOf t)])
          (fun k w' => k ≤ t.length ∧ (∀ j b, j < k → t[j]? = some b → j ≠ t.length - 3 → isDig b = true) ∧ Below w.heap.size w w') (fun k => t.length - k)
          ⟨rfl, rfl, rfl, rfl⟩ ⟨Nat.zero_le _, fun j b h1 => absurd h1 (Nat.not_lt_zero j), hB⟩ ?_
        rintro i f wr ⟨hi, hall, hB⟩
        obtain ⟨b, hbi0⟩ : ∃ b, i < t.length → t[i]? = some b := ⟨t.getD i 0, fun h => by simp [List.getD_eq_getElem?_getD, List.getElem?_eq_getElem h]⟩
        refine W_seq ?_
        refine W_seq ?_
        refine W_region ?_
        refine WR_val rfl (rn_move) ?_
        refine WR_val rfl (rn_move) ?_
        refine WR_val rfl (rn_lss rfl rfl) ?_
        refine WR_nil ?_
        refine thenN ?_
        refine W_ifp rfl (fun hlt => ?_) (fun hlt => ?_)
        ·
          refine W_skip ?_
          refine thenN ?_
          refine W_seq ?_
          refine W_block ?_
          refine W_cut (fun v : Bool => [(60, .bool v), (5, .int .i64 (i : Nat)), (4, .int .i64 (t.length : Nat)), (3, strOf t)]) (fun v w' => (v = true → ¬ (i ≠ t.length - 3 → isDig b = true)) ∧ (v = false → (i ≠ t.length - 3 → isDig b = true)) ∧ wr = w') ?_ ?_
          ·
            have hbi := hbi0 (by omega)
            refine W_region ?_
            refine WR_val rfl (rn_move) ?_
            refine WR_val rfl (rn_move) ?_
            refine WR_val rfl (rn_sub rfl rfl (Coup.w64 (by omega))) ?_
            refine WR_val rfl (rn_neq rfl rfl) ?_
            refine WR_val rfl (rn_move) ?_
            refine WR_part 49 rfl (fun hne => ?_) (fun hne => ?_)
            ·
              refine WR_yes rfl ?_
              refine WR_val rfl (rn_move) ?_
              refine WR_yes rfl ?_
              refine WR_val rfl (rn_move) ?_
              refine WR_yes rfl ?_
              refine WR_val rfl (rn_byteS (by kernel_rfl) rfl rfl i rfl hbi) ?_
              refine WR_yes rfl ?_
              refine WR_val rfl (rn_lss rfl rfl) ?_
              refine WR_yes rfl ?_
              refine WR_val rfl (rn_move) ?_
              refine WR_part 54 rfl (fun hlo => ?_) (fun hlo => ?_)
              ·
                refine WR_no rfl rfl ?_
                refine WR_no rfl rfl ?_
                refine WR_no rfl rfl ?_
                refine WR_no rfl rfl ?_
                refine WR_yes rfl ?_
                refine WR_val rfl (rn_pick_t rfl) ?_
                refine WR_val rfl (rn_pick_t rfl) ?_
                refine WR_nil ?_
                refine loopN ⟨true, ⟨rfl, rfl, rfl, rfl, rfl⟩, fun _ q => ?_, fun q => (by cases q), rfl⟩
                have := q (by omega)
                simp only [isDig, Bool.and_eq_true, decide_eq_true_eq] at this
                omega
              ·
                refine WR_yes rfl ?_
                refine WR_val rfl (rn_move) ?_
                refine WR_yes rfl ?_
                refine WR_val rfl (rn_move) ?_
                refine WR_yes rfl ?_
                refine WR_val rfl (rn_byteS (by kernel_rfl) rfl rfl i rfl hbi) ?_
                refine WR_yes rfl ?_
                refine WR_val rfl (rn_gtr rfl rfl) ?_
                refine WR_yes rfl ?_
                refine WR_val rfl (rn_pick_f rfl) ?_
                refine WR_val rfl (rn_pick_t rfl) ?_
                refine WR_nil ?_
                refine loopN ⟨_, ⟨rfl, rfl, rfl, rfl, rfl⟩, fun q1 q => ?_, fun q1 _ => ?_, rfl⟩
                · have := q (by omega)
                  simp only [isDig, Bool.and_eq_true, decide_eq_true_eq] at this
                  have := of_decide_eq_true q1
                  omega
                · have := of_decide_eq_false q1
                  simp only [isDig, Bool.and_eq_true, decide_eq_true_eq]
                  omega
            ·
              refine WR_no rfl rfl ?_
              refine WR_no rfl rfl ?_
              refine WR_no rfl rfl ?_
              refine WR_no rfl rfl ?_
              refine WR_no rfl rfl ?_
              refine WR_nou rfl ?_
              refine WR_nou rfl ?_
              refine WR_nou rfl ?_
              refine WR_nou rfl ?_
              refine WR_no rfl rfl ?_
              refine WR_val rfl (rn_pick_f rfl) ?_
              refine WR_nil ?_
              refine loopN ⟨false, ⟨rfl, rfl, rfl, rfl, rfl⟩, fun q => (by cases q), fun _ q => absurd ?_ q, rfl⟩
              omega
          ·
            rintro v f _ ⟨hv1, hv2, rfl⟩
            refine W_if rfl (fun hv => ?_) (fun hv => ?_)
            ·
              refine W_seq ?_
              refine W_region ?_
              refine WR_val rfl (rn_assign) ?_
              refine WR_nil ?_
              refine thenN ?_
              refine W_ret ?_
              refine blockR ?_
              refine thenR ?_
              refine loopR ?_
              refine blockR ?_
              refine thenR ?_
              refine ret_ret [_] ⟨rfl, trivial⟩ ?_
              exact ⟨false, rfl, fun q => (by cases q), fun _ q => hv1 hv (q.2 i b (hbi0 (by omega))), hB⟩
            ·
              have hv' := hv2 (by simpa using hv)
              refine W_skip ?_
              refine blockN ?_
              refine thenN ?_
              refine W_region ?_
              refine WR_val rfl (rn_move) ?_
              refine WR_val rfl (rn_add rfl rfl (Coup.w64 (by omega))) ?_
              refine WR_val rfl (rn_assign) ?_
              refine WR_nil ?_
              refine loopN ⟨i + 1, by omega, ⟨rfl, rfl, rfl, rfl⟩, by omega, ?_, hB⟩
              intro j c h1 h2 h3
              rcases Nat.lt_or_eq_of_le (Nat.le_of_lt_succ h1) with h4 | h4
              · exact hall j c h4 h2 h3
              · subst h4
                rw [hbi0 (by omega)] at h2
                obtain rfl := Option.some.inj h2
                exact hv' h3
        ·
          obtain rfl : i = t.length := by omega
          refine W_exit ?_
          refine thenX ?_
          refine loopX ?_
          refine blockX ?_
          refine thenN ?_
          refine W_seq ?_
          refine W_region ?_
          refine WR_val rfl (rn_assign) ?_
          refine WR_nil ?_
          refine thenN ?_
          refine W_ret ?_
          refine ret_ret [_] ⟨rfl, trivial⟩ ?_
          exact ⟨true, rfl, fun _ => ⟨hok, fun j b h1 h2 => hall j b (List.getElem?_eq_some_iff.1 h1).1 h1 h2⟩, fun q => (by cases q), hB⟩
end Go.Proofs.Ytknjiohhlemeiaa
