/- Next: the statuses that one leads to, as a slice of the call's own. -/
import Derived.Test.YteamiconagjpcaaB
import Derived.Maps.AppendAt
namespace Go.Proofs.Yteamiconagjpcaa
open Go Go.RowKit

theorem leadsR_eq (s t : Int) : leadsR s t = leadsB s t := by
  rcases hs : mayB s with _ | _
  · have hb : bitsN s = 0 := by
      have h : ¬ (1 ≤ s ∧ s ≤ 9) := by intro h; simp [mayB, h] at hs
      unfold bitsN
      repeat' split
      all_goals first | rfl | (rename_i h1; simp at h1; omega)
    have : leadsB s t = false := by
      unfold leadsB
      rw [hb]
      have h0 : (bits BinOp.and IntKind.i64 (0 / 2 ^ t.toNat) 1 == 1) = false := by rw [Int.zero_ediv]; decide
      rw [h0, Bool.and_false]
    rw [this, leadsR, hs, Bool.false_and, Bool.false_and]
  · rcases ht : mayB t with _ | _
    · rw [leadsR, ht, Bool.and_false, Bool.false_and, leadsB, ht, Bool.false_and]
    · rcases nine hs with rfl | rfl | rfl | rfl | rfl | rfl | rfl | rfl | rfl <;>
      rcases nine ht with rfl | rfl | rfl | rfl | rfl | rfl | rfl | rfl | rfl <;> decide +kernel

theorem lastR_eq (s : Int) : lastR s = lastB s := by
  rcases hs : mayB s with _ | _
  · rw [lastR, lastB, hs, Bool.false_and, Bool.false_and]
  · rcases nine hs with rfl | rfl | rfl | rfl | rfl | rfl | rfl | rfl | rfl <;> decide +kernel

def upTo (k : Nat) : List Int := (List.range k).map fun j : Nat => (j : Int) + 1
def nextTo (f : Int) (k : Nat) : List Int := (upTo k).filter (leadsB f)
def nextL (f : Int) : List Int := nextTo f 9
theorem upTo_succ (k : Nat) : upTo (k + 1) = upTo k ++ [(k : Int) + 1] := by simp [upTo, List.range_succ]
theorem nextTo_yes {f : Int} {k : Nat} (h : leadsB f ((k : Int) + 1) = true) : nextTo f (k + 1) = nextTo f k ++ [(k : Int) + 1] := by
  simp [nextTo, upTo_succ, List.filter_append, h]
theorem nextTo_no {f : Int} {k : Nat} (h : leadsB f ((k : Int) + 1) = false) : nextTo f (k + 1) = nextTo f k := by
  simp [nextTo, upTo_succ, List.filter_append, h]
theorem nextTo_len (f : Int) (k : Nat) : (nextTo f k).length ≤ k := by
  have := List.length_filter_le (leadsB f) (upTo k)
  simpa [nextTo, upTo] using this

theorem info22 : (Try.prog.info? 22).map (fun i => (i.zero, i.size, i.bytes)) = some (some (.int .i64 0), 1, 8) := by kernel_rfl

set_option maxHeartbeats 400000 in
theorem next10 (f : Int) (w : World) : Calls Try.prog 10 #[.int .i64 f] w fun e w' => ∃ v, e = .returned v ∧ w'.ownsRow w.heap.size 22 1 v (nextL f).length ((nextL f).map (.int .i64)) ∧ Below w.heap.size w w' := by
  obtain ⟨i0, hi, hz0, hz1, hz2⟩ := info_parts info22
  go_enter Try.func10, Try.ntmps10
  go_wp2
  go_loopw [3, 4] (fun v i wr => ∃ k : Nat, k ≤ 9 ∧ i = .int .i64 ((k : Int) + 1) ∧ wr.ownsRow w.heap.size 22 1 v (nextTo f k).length ((nextTo f k).map (.int .i64)) ∧ Below w.heap.size w wr) (fun _ i _ => 10 - (intOf i).toNat)
  case atStart => exact ⟨0, Nat.zero_le _, rfl, World.ownsRow_nil _ _ _ _, Below.refl _ _⟩
  case round =>
    obtain ⟨k, hk, rfl, hown, hb⟩ := hrel
    by_cases hlt : k < 9
    · have hm : mayB ((k : Int) + 1) = true := by unfold mayB; rw [Bool.and_eq_true]; constructor <;> (rw [decide_eq_true_eq]; omega)
      have HM := Lib.hid hm; clear hm
      rcases hl : leadsB f ((k : Int) + 1) with _ | _
      · have HL := Lib.hid hl; clear hl
        go_wp2_with (first | (go_at_call 17; refine (may17 _ _).mono ?_; rintro e w' ⟨rfl, rfl⟩; rw [HM.out]) | (go_at_call 20; refine (leads20 _ _ _).mono ?_; rintro e w' ⟨rfl, rfl⟩; rw [HL.out]))
        go_roundw
        case rel => exact ⟨k + 1, by omega, by go_num, by rw [nextTo_no HL.out]; exact hown, hb⟩
        case measure => simp [intOf]; omega
      · have hln := nextTo_len f k
        have HL := Lib.hid hl; clear hl
        go_wp2_with (first
          | (go_at_call 17; refine (may17 _ _).mono ?_; rintro e w' ⟨rfl, rfl⟩; rw [HM.out])
          | (go_at_call 20; refine (leads20 _ _ _).mono ?_; rintro e w' ⟨rfl, rfl⟩; rw [HL.out])
          | (at_builtin; refine wpList_append_own _ rfl _ _ 26 rfl w.heap.size 22 i0 (.int .i64 0) 1 8 Try.underlying26 hi hz0 hz1 hz2 rfl (by decide) _ _ _ rfl (hown.alloc _) ⟨wr.heap.size, 0, none⟩ 1 1 [.int .i64 ((k : Int) + 1)] rfl rfl (cell_one_new _ _ _) (ints_oneCell .i64 [(k : Int) + 1]) (by unfold maxLen; omega) (by omega) (by have := hb.size; simp; omega) ?_; intro v' w1 hown' hgrow _))
        go_roundw
        case rel => exact ⟨k + 1, by omega, by go_num, by rw [nextTo_yes HL.out, List.length_append, List.map_append]; exact hown', (hb.alloc hb.size _).grown hgrow (by have := hb.size; simp; omega) (fun j hj => (hown.lt j hj).1)⟩
        case measure => simp [intOf]; omega
    · have hm : mayB ((k : Int) + 1) = false := by unfold mayB; rw [Bool.and_eq_false_iff]; right; rw [decide_eq_false_iff_not]; omega
      have h9 : k = 9 := by omega
      have H9 := Lib.hid h9; clear h9
      have HM := Lib.hid hm; clear hm
      go_wp2_with (first | (go_at_call 17; refine (may17 _ _).mono ?_; rintro e w' ⟨rfl, rfl⟩; rw [HM.out]))
      go_ret
      rw [H9.out] at hown
      exact ⟨_, rfl, hown, hb⟩
end Go.Proofs.Yteamiconagjpcaa
