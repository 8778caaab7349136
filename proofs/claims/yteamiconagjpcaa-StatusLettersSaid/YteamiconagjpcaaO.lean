/- The law StatusWays: its walk. -/
import Derived.Test.YteamiconagjpcaaN
namespace Go.Proofs.Yteamiconagjpcaa
open Go Go.RowKit Coup

def apartB (l : List Int) : Bool := (List.range l.length).all fun i => (List.range i).all fun k => nth l k != nth l i
def waysB (f t : Int) : Bool := (decide (wayL f t = []) && f != 1) || (apartB (wayL f t) && (!lastB f || f == t))
theorem waysB_all {f t : Int} (hf : mayB f = true) (ht : mayB t = true) : waysB f t = true := by
  rcases nine hf with rfl | rfl | rfl | rfl | rfl | rfl | rfl | rfl | rfl <;>
  rcases nine ht with rfl | rfl | rfl | rfl | rfl | rfl | rfl | rfl | rfl <;> decide +kernel
theorem apart_out {l : List Int} (h : apartB l = true) {i k : Nat} (hi : i < l.length) (hk : k < i) : (nth l k == nth l i) = false := by
  simp only [apartB, List.all_eq_true, List.mem_range] at h
  have := h i hi k hk
  simpa using this

set_option maxHeartbeats 1000000 in
theorem law4_not (f t : Int) (w : World) (hm : (mayB f && mayB t) = false) : Calls Try.prog 4 #[.int .i64 f, .int .i64 t] w fun e w' => e = .returned (.bool true) ∧ Below w.heap.size w w' := by
  rcases hs : mayB f with _ | _
  · have HM := Lib.hid hs
    have HW := Lib.hid hm
    clear hs hm
    go_enter Try.func4, Try.ntmps4
    go_wp2_with (first
      | (go_at_call 13; refine (way_no13 _ _ _ HW.out).mono ?_; rintro e w' ⟨rfl, rfl⟩)
      | (go_at_call 8; refine (may8 _ _).mono ?_; rintro e w' ⟨rfl, rfl⟩; rw [HM.out])
      | (go_at_call 9; refine (known9 _).mono ?_; rintro e w3 ⟨rfl, hb3⟩))
    go_ret
    exact ⟨rfl, hb3⟩
  · have ht : mayB t = false := by simpa [hs] using hm
    have HM := Lib.hid hs
    have HT := Lib.hid ht
    have HW := Lib.hid hm
    clear hs hm ht
    go_enter Try.func4, Try.ntmps4
    go_wp2_with (first
      | (go_at_call 13; refine (way_no13 _ _ _ HW.out).mono ?_; rintro e w' ⟨rfl, rfl⟩)
      | (go_at_call 8; refine (may8 _ _).mono ?_; rintro e w' ⟨rfl, rfl⟩; first | rw [HM.out] | rw [HT.out])
      | (go_at_call 9; refine (known9 _).mono ?_; rintro e w3 ⟨rfl, hb3⟩))
    go_ret
    exact ⟨rfl, hb3⟩

set_option maxHeartbeats 1000000 in
theorem law4_none (f t : Int) (w : World) (hf : mayB f = true) (ht : mayB t = true) (hl : wayL f t = []) : Calls Try.prog 4 #[.int .i64 f, .int .i64 t] w fun e w' => e = .returned (.bool true) ∧ Below w.heap.size w w' := by
  have hw := waysB_all hf ht
  have hf1 : (f != 1) = true := by
    rcases h1 : (f != 1) with _ | _
    · exfalso
      have : f = 1 := by simpa using h1
      subst this
      rcases nine ht with rfl | rfl | rfl | rfl | rfl | rfl | rfl | rfl | rfl <;> revert hl <;> decide +kernel
    · rfl
  clear hw
  have HM := Lib.hid hf
  have HT := Lib.hid ht
  have HL := Lib.hid hl
  have HZ : Hid ((wayL f t).length = 0) := by rw [hl]; rfl
  clear hf ht hl
  go_enter Try.func4, Try.ntmps4
  go_wp2_with (first
    | (go_at_call 13; refine (way_none13 _ _ _ HM.out HT.out HL.out).mono ?_; rintro e w1 ⟨q, c, rfl, hb1⟩)
    | (go_at_call 8; refine (may8 _ _).mono ?_; rintro e w' ⟨rfl, rfl⟩; first | rw [HM.out] | rw [HT.out])
    | (go_at_call 15; refine (way15 _ _ _ HM.out).mono ?_; rintro e w2 ⟨q2, c2, rfl, hq2, hb2⟩; rw [HZ.out])
    | (go_at_call 9; refine (known9 _).mono ?_; rintro e w3 ⟨rfl, hb3⟩))
  go_ret
  have hB := hb1.trans (hb2.mono hb1.size)
  exact ⟨rfl, hB.trans (hb3.mono hB.size)⟩

set_option maxHeartbeats 2000000 in
theorem law4_some (f t : Int) (l : List Int) (w : World) (hf : mayB f = true) (ht : mayB t = true) (hl : wayL f t = l) (hne : l ≠ []) : Calls Try.prog 4 #[.int .i64 f, .int .i64 t] w fun e w' => e = .returned (.bool true) ∧ Below w.heap.size w w' := by
  have hw := waysB_all hf ht
  rw [waysB, hl] at hw
  have hw2 : apartB l = true ∧ (!lastB f || f == t) = true := by simpa [hne] using hw
  obtain ⟨n, hn⟩ : ∃ n, n = l.length := ⟨_, rfl⟩
  have hpos : 0 < n := by rw [hn]; exact List.length_pos_iff.2 hne
  have HA := Lib.hid hw2.1
  have hlt2 : (lastB f = false ∨ (lastB f = true ∧ (f == t) = true)) := by
    rcases h1 : lastB f with _ | _
    · exact .inl rfl
    · right; exact ⟨rfl, by simpa [h1] using hw2.2⟩
  have HM := Lib.hid hf
  have HT := Lib.hid ht
  have HL := Lib.hid hl
  have HNE := Lib.hid hne
  have HN := Lib.hid hn
  have HZ : Hid ((wayL f t).length = n) := by rw [hl, hn]; rfl
  have HZL : Hid (l.length = n) := hn.symm
  clear hf ht hl hw hw2 hne hn
  go_enter Try.func4, Try.ntmps4
  go_wp2_with (first
    | (go_at_call 13; refine (way_some13 _ _ l _ HM.out HT.out HL.out HNE.out).mono ?_; rintro e w1 ⟨q, c, rfl, hq, hb1⟩; rw [HZL.out]; rw [HZL.out] at hq)
    | (go_at_call 8; refine (may8 _ _).mono ?_; rintro e w' ⟨rfl, rfl⟩; first | rw [HM.out] | rw [HT.out])
    | (go_at_call 15; refine (way15 _ _ _ HM.out).mono ?_; rintro e w2 ⟨q2, c2, rfl, hq2, hb2⟩; rw [HZ.out]; rw [HZ.out, HL.out] at hq2)
    | (go_at_call 16; refine (same16 _ _ _ _ _ _ l l _ (hq.below hb2 (Nat.le_refl _)) hq2).mono ?_; rintro e w3 ⟨rfl, hs3⟩; rw [decide_eq_true (rfl : l = l)]))
  have hB := (hb1.trans (hb2.mono hb1.size)).trans (hs3.below _)
  have hq3 := (hq.below hb2 (Nat.le_refl _)).still hs3
  obtain ⟨hq31, hq32, hq33⟩ := hq3
  clear hq hq2 hq31 hb1 hb2 hs3
  obtain ⟨b, off, rfl, hbs, hc⟩ := hq33 hpos
  have HC := Lib.hid hc
  clear hc hq33
  unfold maxLen at hq32
  go_loopw [8] (fun i wr => ∃ k : Nat, k ≤ n ∧ i = .int .i64 k ∧ Still w3 wr) (fun i _ => n - (intOf i).toNat)
  case atStart => exact ⟨0, by omega, rfl, Still.refl _⟩
  case round =>
    obtain ⟨i, hi, rfl, hs⟩ := hrel
    by_cases hin : i < n
    · obtain ⟨wo, rfl⟩ : ∃ wo : World, wo = wr := ⟨_, rfl⟩
      go_wp2
      go_loopw [9] (fun k wr => ∃ j : Nat, j ≤ i ∧ k = .int .i64 j ∧ Still w3 wr) (fun k _ => i - (intOf k).toNat)
      case atStart => exact ⟨0, by omega, rfl, hs⟩
      case round =>
        clear hs
        obtain ⟨j, hj, rfl, hs⟩ := hrel
        by_cases hji : j < i
        · have h1 := (hs.cell _).trans (HC.out j (by omega))
          have h2 := (hs.cell _).trans (HC.out i hin)
          have hap := apart_out HA.out (i := i) (k := j) (by rw [HZL.out]; exact hin) hji
          have hx1 : (j : Int) < n := by omega
          have hx2 : (i : Int) < n := by omega
          go_wp2
          go_quiet (fail)
          go_wp2
          go_roundw
          case rel => exact ⟨j + 1, by omega, by go_num, hs.drewN _⟩
          case measure => simp [intOf]; omega
        · go_wp2
          go_roundw
          case rel => exact ⟨i + 1, by omega, by go_num, hs⟩
          case measure => simp [intOf]; omega
    · rcases hlt2 with hla | ⟨hla, hft⟩
      all_goals
        have HLA := Lib.hid hla
        clear hla
        go_wp2_with (first
          | (go_at_call 11; refine (last11 _ _).mono ?_; rintro e w' ⟨rfl, rfl⟩; rw [HLA.out])
          | (go_at_call 9; refine (known9 _).mono ?_; rintro e w4 ⟨rfl, hb4⟩))
        go_ret
        have hB2 := hB.trans (hs.below _)
        exact ⟨rfl, hB2.trans (hb4.mono hB2.size)⟩

theorem law4 (f t : Int) (w : World) : Calls Try.prog 4 #[.int .i64 f, .int .i64 t] w fun e w' => e = .returned (.bool true) ∧ Below w.heap.size w w' := by
  rcases hm : (mayB f && mayB t) with _ | _
  · exact law4_not f t w hm
  · rw [Bool.and_eq_true] at hm
    by_cases hl : wayL f t = []
    · exact law4_none f t w hm.1 hm.2 hl
    · exact law4_some f t _ w hm.1 hm.2 rfl hl
end Go.Proofs.Yteamiconagjpcaa
