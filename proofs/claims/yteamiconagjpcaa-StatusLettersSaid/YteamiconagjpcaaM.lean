/- The law StatusWalks: its walk. -/
import Derived.Test.YteamiconagjpcaaK
namespace Go.Proofs.Yteamiconagjpcaa
open Go Go.RowKit Coup

theorem bits_of_leads {s t : Int} (h : leadsB s t = true) : bitsN s ≠ 0 := by
  intro hb
  have h0 : (bits BinOp.and IntKind.i64 (0 / 2 ^ t.toNat) 1 == 1) = false := by rw [Int.zero_ediv]; decide
  rw [leadsB, hb, h0, Bool.and_false] at h
  cases h
theorem last_of_leads {s t : Int} (h : leadsB s t = true) : lastB s = false := by
  rw [lastB, Bool.and_eq_false_iff]; right; simpa using bits_of_leads h
theorem live_of_leads {s t : Int} (h : leadsB s t = true) : liveB s = true := by
  rw [liveB]; simpa using bits_of_leads h
theorem walkN_zero {l : List Int} (h : walkN l = 0) {j : Nat} (h1 : 1 ≤ j) (hj : j < l.length) : stepB l j = true := by
  rcases hs : stepB l j with _ | _
  · exfalso
    rw [walkN] at h
    rcases hf : (List.range l.length).find? (fun j => decide (1 ≤ j) && !stepB l j) with _ | x
    · rw [List.find?_range_eq_none] at hf
      have := hf j hj
      simp [h1, hs] at this
    · rw [hf] at h
      have := List.find?_some hf
      simp at this
      have hx : x = 0 := h
      omega
  · rfl
theorem walkN_lt (l : List Int) : walkN l ≤ l.length := by
  rw [walkN]
  rcases hf : (List.range l.length).find? (fun j => decide (1 ≤ j) && !stepB l j) with _ | x
  · exact Nat.zero_le _
  · have := List.mem_of_find?_eq_some hf
    rw [List.mem_range] at this
    exact Nat.le_of_lt this

theorem nth_mem {l : List Int} {k : Nat} (h : k < l.length) : nth l k ∈ l := by
  rw [nth, List.getD_eq_getElem?_getD, List.getElem?_eq_getElem h]; exact List.getElem_mem _

/-- The loop over a row of which not all may be comes to one that may not. -/
theorem some_not {xs : List Int} (ha : xs.all mayB = false) (h : ∀ j, j < xs.length → mayB (nth xs j) = true) : False := by
  rw [List.all_eq_false] at ha
  obtain ⟨x, hx, hn⟩ := ha
  obtain ⟨i, hi, rfl⟩ := List.mem_iff_getElem.1 hx
  have := h i hi
  rw [nth, List.getD_eq_getElem?_getD, List.getElem?_eq_getElem hi] at this
  exact hn this

set_option maxHeartbeats 1000000 in
theorem law6_long (p : Option Addr) (n c : Nat) (w : World) (hn : 60 < n) : Calls Try.prog 6 #[.slice p n c] w fun e w' => e = .returned (.bool true) ∧ Below w.heap.size w w' := by
  have h : (60 : Int) < n := by omega
  go_enter Try.func6, Try.ntmps6
  go_wp2_with (first | (go_at_call 9; refine (known9 _).mono ?_; rintro e w3 ⟨rfl, hb3⟩))
  go_ret
  exact ⟨rfl, hb3⟩

set_option maxHeartbeats 1000000 in
theorem law6_not (p : Option Addr) (n c : Nat) (xs : List Int) (w : World) (hx : IntsAt w p n xs) (hn : n ≤ 60) (ha : xs.all mayB = false) : Calls Try.prog 6 #[.slice p n c] w fun e w' => e = .returned (.bool true) ∧ Below w.heap.size w w' := by
  have HA := Lib.hid ha; clear ha
  have hx0 := hx
  obtain ⟨hx1, hx2, hx3⟩ := hx
  have HX := Lib.hid hx1; clear hx1 hx2
  go_enter Try.func6, Try.ntmps6
  go_wp2_with (first | (go_at_call 12; refine (walk_no12 _ _ _ xs _ hx0 HA.out).mono ?_; rintro e w1 ⟨rfl, rfl⟩))
  go_loop [5] (fun i => ∃ k : Nat, k ≤ n ∧ i = .int .i64 k ∧ (∀ j, j < k → mayB (nth xs j) = true)) (fun i => n - (intOf i).toNat)
  case atStart => exact ⟨0, by omega, rfl, fun j h => by omega⟩
  case round =>
    obtain ⟨k, hk, rfl, hpre⟩ := hrel
    have HP := Lib.hid hpre; clear hpre
    by_cases hlt : k < n
    · obtain ⟨b, off, rfl, hbs, hc⟩ := hx3 (by omega)
      have h1 := hc k hlt
      clear hc hx3
      rcases hm : mayB (nth xs k) with _ | _
      · have HM := Lib.hid hm; clear hm
        go_wp2_with (first
          | (go_at_call 8; refine (may8 _ _).mono ?_; rintro e w' ⟨rfl, rfl⟩; rw [HM.out])
          | (go_at_call 9; refine (known9 _).mono ?_; rintro e w3 ⟨rfl, hb3⟩))
        go_ret
        exact ⟨rfl, hb3⟩
      · have HM := Lib.hid hm; clear hm
        go_wp2_with (first
          | (go_at_call 8; refine (may8 _ _).mono ?_; rintro e w' ⟨rfl, rfl⟩; rw [HM.out]))
        go_round
        case rel => exact ⟨k + 1, by omega, by go_num, fun j hj => (Nat.lt_succ_iff_lt_or_eq.1 hj).elim (HP.out j) (fun e => by subst e; exact HM.out)⟩
        case measure => simp [intOf]; omega
    · exact (some_not HA.out (fun j hj => HP.out j (by have := HX.out; omega))).elim

set_option maxHeartbeats 1000000 in
theorem law6_yes (p : Option Addr) (n c : Nat) (xs : List Int) (w : World) (hx : IntsAt w p n xs) (hn : n ≤ 60) (ha : xs.all mayB = true) : Calls Try.prog 6 #[.slice p n c] w fun e w' => e = .returned (.bool true) ∧ Below w.heap.size w w' := by
  have HA := Lib.hid ha; clear ha
  have hx0 := hx
  obtain ⟨hx1, hx2, hx3⟩ := hx
  have HX := Lib.hid hx1; clear hx1 hx2
  have hwl := walkN_lt xs
  rw [← HX.out] at hwl
  obtain ⟨m, hm⟩ : ∃ m, m = walkN xs := ⟨_, rfl⟩
  obtain ⟨er, he⟩ : ∃ er, er = walkErr xs := ⟨_, rfl⟩
  rw [← hm] at hwl
  have HMM := Lib.hid hm.symm; clear hm
  have HE := Lib.hid he.symm; clear he
  go_enter Try.func6, Try.ntmps6
  go_wp2_with (first | (go_at_call 12; refine (walk_yes12' _ _ _ m er xs _ hx0 HA.out HMM.out HE.out).mono ?_; rintro e w1 ⟨rfl, hs1⟩))
  go_loop [5] (fun i => ∃ k : Nat, k ≤ n ∧ i = .int .i64 k) (fun i => n - (intOf i).toNat)
  case atStart => exact ⟨0, by omega, rfl⟩
  case round =>
    obtain ⟨k, hk, rfl⟩ := hrel
    by_cases hlt : k < n
    · obtain ⟨b, off, rfl, hbs, hc⟩ := hx3 (by omega)
      have h1 := (hs1.cell _).trans (hc k hlt)
      have hm : mayB (nth xs k) = true := List.all_eq_true.1 HA.out _ (nth_mem (by have := HX.out; omega))
      clear hc hx3
      have HM := Lib.hid hm; clear hm
      go_wp2_with (first
        | (go_at_call 8; refine (may8 _ _).mono ?_; rintro e w' ⟨rfl, rfl⟩; rw [HM.out]))
      go_round
      case rel => exact ⟨k + 1, by omega, by go_num⟩
      case measure => simp [intOf]; omega
    · rcases Nat.eq_zero_or_pos m with hm0 | hm0
      · have he0 : er = 0 := by rw [← HE.out]; exact walkErr_zero (by rw [HMM.out, hm0])
        subst hm0
        subst he0
        go_wp2_with (first
          | (go_at_call 14; refine (walk14 _ _ _ xs _ (hx0.still hs1)).mono ?_; rintro e w2 ⟨rfl, hb2⟩; rw [HMM.out]))
        have hB := (hs1.below _).trans (hb2.mono (hs1.below 0).size)
        go_loop [7] (fun i => ∃ k : Nat, k ≤ n ∧ i = .int .i64 k) (fun i => n - (intOf i).toNat)
        case atStart => exact ⟨0, by omega, rfl⟩
        case round =>
          obtain ⟨k, hk, rfl⟩ := hrel
          by_cases hlt : k + 1 < n
          · obtain ⟨b, off, rfl, hbs, hc⟩ := hx3 (by omega)
            have h1 := (hB.cell (p := ⟨b, off + k, none⟩) hbs).trans (hc k (by omega))
            have hst : stepB xs (k + 1) = true := walkN_zero HMM.out (by omega) (by have := HX.out; omega)
            have hla : lastB (nth xs k) = false := last_of_leads hst
            have hli : liveB (nth xs k) = true := live_of_leads hst
            have HLA := Lib.hid hla
            have HLI := Lib.hid hli
            clear hc hx3 hst hla hli
            go_wp2_with (first
              | (go_at_call 11; refine (last11 _ _).mono ?_; rintro e w' ⟨rfl, rfl⟩; rw [HLA.out])
              | (go_at_call 19; refine (live19 _ _).mono ?_; rintro e w' ⟨rfl, rfl⟩; rw [HLI.out]))
            go_round
            case rel => exact ⟨k + 1, by omega, by go_num⟩
            case measure => simp [intOf]; omega
          · go_wp2_with (first
              | (go_at_call 9; refine (known9 _).mono ?_; rintro e w3 ⟨rfl, hb3⟩))
            go_ret
            exact ⟨rfl, hB.trans (hb3.mono hB.size)⟩
      · have he0 : er = 9 := by rw [← HE.out]; exact walkErr_some (by rw [HMM.out]; omega)
        subst he0
        go_wp2_with (first
          | (go_at_call 14; refine (walk14 _ _ _ xs _ (hx0.still hs1)).mono ?_; rintro e w2 ⟨rfl, hb2⟩; rw [HMM.out])
          | (go_at_call 9; refine (known9 _).mono ?_; rintro e w3 ⟨rfl, hb3⟩))
        go_ret
        have hB := (hs1.below _).trans (hb2.mono (hs1.below 0).size)
        exact ⟨rfl, hB.trans (hb3.mono hB.size)⟩
end Go.Proofs.Yteamiconagjpcaa
