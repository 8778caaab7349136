/- Walks: of the code and of the reference: where a row is no walk. -/
import Derived.Test.YteamiconagjpcaaC
namespace Go.Proofs.Yteamiconagjpcaa
open Go Go.RowKit

theorem leads21 (s t : Int) (w : World) : Calls Try.prog 21 #[.int .i64 s, .int .i64 t] w fun e w' => e = .returned (.bool (leadsB s t)) ∧ Below w.heap.size w w' := by
  rw [← leadsR_eq]
  rcases hm : (mayB s && mayB t) with _ | _
  · refine (leads_no21 s t w hm).mono ?_
    rintro e w' ⟨rfl, rfl⟩
    exact ⟨by rw [leadsR, hm, Bool.false_and], Below.refl _ _⟩
  · rw [Bool.and_eq_true] at hm
    exact leads_yes21 s t w hm.1 hm.2

theorem leads20' (s t : Int) (w : World) : Calls Try.prog 20 #[.int .i64 s, .int .i64 t] w fun e w' => e = .returned (.bool (leadsB s t)) ∧ w' = w :=
  (leads20 s t w).mono fun _ _ ⟨h, k⟩ => ⟨h, k.symm⟩

theorem lastR18 (s : Int) (w : World) : Calls Try.prog 18 #[.int .i64 s] w fun e w' => e = .returned (.bool (lastB s)) ∧ Below w.heap.size w w' := by
  rw [← lastR_eq]; exact last18 s w

/-- Does the row go on from place j - 1 to place j? -/
def stepB (l : List Int) (j : Nat) : Bool := leadsB (nth l (j - 1)) (nth l j)
/-- The first place from 1 on where a row is no walk; 0: there is none. -/
def walkN (l : List Int) : Nat := ((List.range l.length).find? fun j => decide (1 ≤ j) && !stepB l j).getD 0
theorem walkN_at {l : List Int} {k : Nat} (h1 : 1 ≤ k) (hk : k < l.length) (hpre : ∀ j, 1 ≤ j → j < k → stepB l j = true) (h : stepB l k = false) : walkN l = k := by
  have : (List.range l.length).find? (fun j => decide (1 ≤ j) && !stepB l j) = some k := by
    rw [List.find?_range_eq_some]
    refine ⟨by simp [h1, h], by simpa using hk, fun j hj => ?_⟩
    by_cases h0 : 1 ≤ j
    · simp [hpre j h0 hj]
    · simp [h0]
  rw [walkN, this]; rfl
theorem walkN_none {l : List Int} (hpre : ∀ j, 1 ≤ j → j < l.length → stepB l j = true) : walkN l = 0 := by
  have : (List.range l.length).find? (fun j => decide (1 ≤ j) && !stepB l j) = none := by
    rw [List.find?_range_eq_none]
    intro j hj
    by_cases h0 : 1 ≤ j
    · simp [hpre j h0 hj]
    · simp [h0]
  rw [walkN, this]; rfl

theorem walk14 (p : Option Addr) (n c : Nat) (xs : List Int) (w : World) (hx : IntsAt w p n xs) :
    Calls Try.prog 14 #[.slice p n c] w fun e w' => e = .returned (.int .i64 (walkN xs)) ∧ Below w.heap.size w w' := by
  obtain ⟨hx1, hx2, hx3⟩ := hx
  have HX := Lib.hid hx1; clear hx1
  unfold maxLen at hx2
  go_enter Try.func14, Try.ntmps14
  go_wp2
  go_loopw [3] (fun i wr => ∃ k : Nat, 1 ≤ k ∧ (k = 1 ∨ k ≤ n) ∧ i = .int .i64 k ∧ (∀ j, 1 ≤ j → j < k → stepB xs j = true) ∧ Below w.heap.size w wr) (fun i _ => n - (intOf i).toNat)
  case atStart => exact ⟨1, by omega, by omega, rfl, fun j _ h => by omega, Below.refl _ _⟩
  case round =>
    obtain ⟨k, hk1, hk, rfl, hpre, hb⟩ := hrel
    have HP := Lib.hid hpre; clear hpre
    by_cases hlt : k < n
    · obtain ⟨b, off, rfl, hbs, hc⟩ := hx3 (by omega)
      have h1 := (hb.cell (p := ⟨b, off + (k - 1), none⟩) hbs).trans (hc (k - 1) (by omega))
      have h2 := (hb.cell (p := ⟨b, off + k, none⟩) hbs).trans (hc k hlt)
      clear hc hx3
      have hx0 : (0 : Int) ≤ k - 1 := by omega
      have hx2 : (k : Int) - 1 < n := by omega
      have hx3 : (k : Int) < n := by omega
      have hw1 : IntKind.i64.wrap ((k : Int) - 1) = (k : Int) - 1 := IntWalk.i64_in _ (by omega)
      have hw2 : ((k : Int) - 1).toNat = k - 1 := by omega
      have hx4 : (1 : Int) ≤ k := by omega
      go_wp2
      go_region_with (go_at_call 21; refine (leads21 _ _ _).mono ?_; rintro e w' ⟨rfl, hb'⟩)
      all_goals go_wp2
      all_goals first
        | (have hno : (!leadsB (nth xs (k - 1)) (nth xs k)) = true := by assumption
           replace hno : stepB xs k = false := by rw [stepB]; simpa using hno
           have hx := HX.out
           go_ret
           exact ⟨ret_int (by rw [walkN_at hk1 (by omega) HP.out hno]), hb.drew.trans (hb'.mono hb.size)⟩)
        | (have hno : (!leadsB (nth xs (k - 1)) (nth xs k)) = false := by assumption
           replace hno : stepB xs k = true := by rw [stepB]; simpa using hno
           go_roundw
           case rel => exact ⟨k + 1, by omega, by omega, by go_num, fun j h1 hj => (Nat.lt_succ_iff_lt_or_eq.1 hj).elim (HP.out j h1) (fun e => by subst e; exact hno), hb.drew.trans (hb'.mono hb.size)⟩
           case measure => simp [intOf]; omega)
    · go_wp2
      go_ret
      have hx := HX.out
      exact ⟨ret_int (by rw [walkN_none (fun j h1 hj => HP.out j h1 (by omega))]; rfl), hb⟩

theorem index32 (p : Option Addr) (n c : Nat) (xs : List Int) (w : World) (hx : IntsAt w p n xs) :
    Calls Try.prog 32 #[.slice p n c, .func (.func 27) #[] #[]] w fun e w' => ∃ r : Int, e = .returned (.int .i64 r) ∧ decide (0 ≤ r) = !(xs.all mayB) ∧ w = w' := by
  obtain ⟨hx1, hx2, hx3⟩ := hx
  have HX := Lib.hid hx1; clear hx1
  unfold maxLen at hx2
  go_enter Try.func32, Try.ntmps32
  go_wp2
  go_loop [8] (fun i => ∃ k : Nat, k ≤ n ∧ i = .int .i64 k ∧ (∀ j, j < k → mayB (nth xs j) = true)) (fun i => n - (intOf i).toNat)
  case atStart => exact ⟨0, by omega, rfl, fun j h => by omega⟩
  case round =>
    obtain ⟨k, hk, rfl, hpre⟩ := hrel
    have HP := Lib.hid hpre; clear hpre
    by_cases hlt : k < n
    · obtain ⟨b, off, rfl, hbs, hc⟩ := hx3 (by omega)
      have h1 := hc k hlt
      clear hc hx3
      rcases hm : mayB (nth xs k) with _ | _
      · have HM := Lib.hid hm; clear hm
        go_wp2_with (first
          | (go_at_call 17; refine (may17 _ _).mono ?_; rintro e w' ⟨rfl, rfl⟩; rw [HM.out])
          | go_in)
        go_ret
        refine ⟨_, rfl, ?_, rfl⟩
        have hx := HX.out
        rw [show (xs.all mayB) = false from List.all_eq_false.2 ⟨nth xs k, by rw [nth, List.getD_eq_getElem?_getD, List.getElem?_eq_getElem (by omega)]; exact List.getElem_mem _, by simp [HM.out]⟩]
        simp
      · have HM := Lib.hid hm; clear hm
        go_wp2_with (first
          | (go_at_call 17; refine (may17 _ _).mono ?_; rintro e w' ⟨rfl, rfl⟩; rw [HM.out])
          | go_in)
        go_round
        case rel => exact ⟨k + 1, by omega, by go_num, fun j hj => (Nat.lt_succ_iff_lt_or_eq.1 hj).elim (HP.out j) (fun e => by subst e; exact HM.out)⟩
        case measure => simp [intOf]; omega
    · go_wp2
      go_ret
      refine ⟨_, rfl, ?_, rfl⟩
      have hx := HX.out
      rw [show (xs.all mayB) = true from List.all_eq_true.2 (fun x hx => by
        obtain ⟨i, hi, rfl⟩ := List.mem_iff_getElem.1 hx
        have := HP.out i (by omega)
        rwa [nth, List.getD_eq_getElem?_getD, List.getElem?_eq_getElem hi] at this)]
      rfl

theorem contains26 (p : Option Addr) (n c : Nat) (xs : List Int) (w : World) (hx : IntsAt w p n xs) :
    Calls Try.prog 26 #[.slice p n c, .func (.func 27) #[] #[]] w fun e w' => e = .returned (.bool (!(xs.all mayB))) ∧ w = w' := by
  go_enter Try.func26, Try.ntmps26
  go_wp2_with (first | (go_at_call 32; refine (index32 _ _ _ _ _ hx).mono ?_; rintro e w' ⟨r, rfl, hr, rfl⟩; have HR := Lib.hid hr; clear hr))
  go_ret
  exact ⟨ret_bool HR.out, rfl⟩

/-- The error that Walk answers of a row of statuses that may be. -/
def walkErr (l : List Int) : Int := if walkN l = 0 then 0 else 9
theorem walkErr_zero {l : List Int} (h : walkN l = 0) : walkErr l = 0 := by rw [walkErr, if_pos h]
theorem walkErr_some {l : List Int} (h : walkN l ≠ 0) : walkErr l = 9 := by rw [walkErr, if_neg h]

theorem walk_no12 (p : Option Addr) (n c : Nat) (xs : List Int) (w : World) (hx : IntsAt w p n xs) (ha : xs.all mayB = false) :
    Calls Try.prog 12 #[.slice p n c] w fun e w' => e = .returned (.tuple #[.int .i64 0, .int .i64 2]) ∧ w = w' := by
  have HA := Lib.hid ha; clear ha
  go_enter Try.func12, Try.ntmps12
  go_wp2_with (first | (go_at_call 26; refine (contains26 _ _ _ _ _ hx).mono ?_; rintro e w' ⟨rfl, rfl⟩; rw [HA.out]))
  go_ret2
  exact ⟨rfl, rfl⟩

theorem walk_yes12 (p : Option Addr) (n c : Nat) (xs : List Int) (w : World) (hx : IntsAt w p n xs) (ha : xs.all mayB = true) :
    Calls Try.prog 12 #[.slice p n c] w fun e w' => e = .returned (.tuple #[.int .i64 (walkN xs), .int .i64 (walkErr xs)]) ∧ Still w w' := by
  have HA := Lib.hid ha; clear ha
  have hx0 := hx
  obtain ⟨hx1, hx2, hx3⟩ := hx
  have HX := Lib.hid hx1; clear hx1
  unfold maxLen at hx2
  go_enter Try.func12, Try.ntmps12
  go_wp2_with (first | (go_at_call 26; refine (contains26 _ _ _ _ _ hx0).mono ?_; rintro e w' ⟨rfl, rfl⟩; rw [HA.out]))
  clear hx0
  go_loopw [4] (fun i wr => ∃ k : Nat, 1 ≤ k ∧ (k = 1 ∨ k ≤ n) ∧ i = .int .i64 k ∧ (∀ j, 1 ≤ j → j < k → stepB xs j = true) ∧ Still w wr) (fun i _ => n - (intOf i).toNat)
  case atStart => exact ⟨1, by omega, by omega, rfl, fun j _ h => by omega, Still.refl _⟩
  case round =>
    obtain ⟨k, hk1, hk, rfl, hpre, hs⟩ := hrel
    have HP := Lib.hid hpre; clear hpre
    by_cases hlt : k < n
    · obtain ⟨b, off, rfl, hbs, hc⟩ := hx3 (by omega)
      have h1 := (hs.cell _).trans (hc (k - 1) (by omega))
      have h2 := (hs.cell _).trans (hc k hlt)
      clear hc hx3
      have hx0 : (0 : Int) ≤ k - 1 := by omega
      have hx2 : (k : Int) - 1 < n := by omega
      have hx3 : (k : Int) < n := by omega
      have hw1 : IntKind.i64.wrap ((k : Int) - 1) = (k : Int) - 1 := IntWalk.i64_in _ (by omega)
      have hw2 : ((k : Int) - 1).toNat = k - 1 := by omega
      have hx4 : (1 : Int) ≤ k := by omega
      go_wp2
      go_quiet ((go_at_call 20; exact Calls.quiet_of_same (leads20' _ _ _)))
      go_wp2
      · have hno : (!leadsB (nth xs (k - 1)) (nth xs k)) = true := by assumption
        replace hno : stepB xs k = false := by rw [stepB]; simpa using hno
        have hx := HX.out
        have hw := walkN_at hk1 (by omega) HP.out hno
        go_ret2
        refine ⟨?_, hs.drewN _⟩
        rw [walkErr_some (by omega), hw]; rfl
      · have hno : (!leadsB (nth xs (k - 1)) (nth xs k)) = false := by assumption
        replace hno : stepB xs k = true := by rw [stepB]; simpa using hno
        go_roundw
        case rel => exact ⟨k + 1, by omega, by omega, by go_num, fun j h1 hj => (Nat.lt_succ_iff_lt_or_eq.1 hj).elim (HP.out j h1) (fun e => by subst e; exact hno), hs.drewN _⟩
        case measure => simp [intOf]; omega
    · go_wp2
      go_ret2
      have hx := HX.out
      have hw := walkN_none (l := xs) (fun j h1 hj => HP.out j h1 (by omega))
      refine ⟨?_, hs⟩
      rw [walkErr_zero hw, hw]
      rfl
end Go.Proofs.Yteamiconagjpcaa
