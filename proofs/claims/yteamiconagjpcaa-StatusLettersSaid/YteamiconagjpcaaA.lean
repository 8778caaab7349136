/- Contracts of the small functions of status: each returns what a plain Lean function says. No conditions. -/
import Derived.Test.YteamiconagjpcaaProg
import Derived.WalkKit
import Derived.Lib.Hide
import Derived.Deep.QuietTactic
import Derived.BigQuiet
namespace Go.Proofs.Yteamiconagjpcaa
open Go Go.RowKit

theorem ret_bool {a b : Bool} (h : a = b) : Ending.returned (.bool a) = .returned (.bool b) := by rw [h]
theorem ret_int {k : IntKind} {a b : Int} (h : a = b) : Ending.returned (.int k a) = .returned (.int k b) := by rw [h]
def mayB (s : Int) : Bool := decide (1 ≤ s) && decide (s ≤ 9)
def bitsN (s : Int) : Int := if (s == 1) = true then 996 else if (s == 2) = true then 10 else if (s == 3) = true then 20 else if (s == 8) = true then 66 else if (s == 9) = true then 18 else 0
theorem bitsN_bd (s : Int) : 0 ≤ bitsN s ∧ bitsN s ≤ 996 := by unfold bitsN; refine ⟨?_, ?_⟩ <;> (repeat' split) <;> omega
def leadsB (s t : Int) : Bool := mayB t && (bits BinOp.and IntKind.i64 (bitsN s / 2 ^ t.toNat) 1 == 1)
def lastB (s : Int) : Bool := mayB s && (bitsN s == 0)
def liveB (s : Int) : Bool := bitsN s != 0

theorem may17 (s : Int) (w : World) : Calls Try.prog 17 #[.int .i64 s] w fun e w' => e = .returned (.bool (mayB s)) ∧ w = w' := by
  by_cases h1 : 1 ≤ s <;> by_cases h2 : s ≤ 9 <;>
  · go_enter Try.func17, Try.ntmps17
    go_wp2
    go_ret
    exact ⟨by simp [mayB, h1, h2], rfl⟩

theorem may8 (s : Int) (w : World) : Calls Try.prog 8 #[.int .i64 s] w fun e w' => e = .returned (.bool (mayB s)) ∧ w = w' := by
  by_cases h1 : 1 ≤ s <;> by_cases h2 : s ≤ 9 <;>
  · go_enter Try.func8, Try.ntmps8
    go_wp2
    go_ret
    exact ⟨by simp [mayB, h1, h2], rfl⟩

theorem bits25 (s : Int) (w : World) : Calls Try.prog 25 #[.int .i64 s] w fun e w' => e = .returned (.int .i64 (bitsN s)) ∧ w = w' := by
  go_enter Try.func25, Try.ntmps25
  go_wp2
  all_goals
    go_ret
    exact ⟨by unfold bitsN; simp only [*]; rfl, rfl⟩

theorem leads20 (s t : Int) (w : World) : Calls Try.prog 20 #[.int .i64 s, .int .i64 t] w fun e w' => e = .returned (.bool (leadsB s t)) ∧ w = w' := by
  have hb := bitsN_bd s
  rcases hm : mayB t with _ | _
  · have HM := Lib.hid hm; clear hm
    go_enter Try.func20, Try.ntmps20
    go_wp2_with (first | (go_at_call 17; refine (may17 _ _).mono ?_; rintro e w' ⟨rfl, rfl⟩; rw [HM.out]) | (go_at_call 25; refine (bits25 _ _).mono ?_; rintro e w' ⟨rfl, rfl⟩))
    go_ret
    exact ⟨by simp [leadsB, HM.out], rfl⟩
  · have h : 1 ≤ t ∧ t ≤ 9 := by simpa [mayB] using hm
    have HM := Lib.hid hm; clear hm
    go_enter Try.func20, Try.ntmps20
    go_wp2_with (first | (go_at_call 17; refine (may17 _ _).mono ?_; rintro e w' ⟨rfl, rfl⟩; rw [HM.out]) | (go_at_call 25; refine (bits25 _ _).mono ?_; rintro e w' ⟨rfl, rfl⟩))
    go_ret
    exact ⟨by simp [leadsB, HM.out], rfl⟩

theorem last11 (s : Int) (w : World) : Calls Try.prog 11 #[.int .i64 s] w fun e w' => e = .returned (.bool (lastB s)) ∧ w = w' := by
  rcases hm : mayB s with _ | _ <;>
  · have HM := Lib.hid hm; clear hm
    go_enter Try.func11, Try.ntmps11
    go_wp2_with (first | (go_at_call 17; refine (may17 _ _).mono ?_; rintro e w' ⟨rfl, rfl⟩; rw [HM.out]) | (go_at_call 25; refine (bits25 _ _).mono ?_; rintro e w' ⟨rfl, rfl⟩))
    go_ret
    exact ⟨by simp [lastB, HM.out], rfl⟩

theorem live19 (s : Int) (w : World) : Calls Try.prog 19 #[.int .i64 s] w fun e w' => e = .returned (.bool (liveB s)) ∧ w = w' := by
  go_enter Try.func19, Try.ntmps19
  go_wp2_with (first | (go_at_call 25; refine (bits25 _ _).mono ?_; rintro e w' ⟨rfl, rfl⟩))
  go_ret
  exact ⟨by simp [liveB], rfl⟩

/-- The k-th number of a list; 0 beyond its end. -/
def nth (zs : List Int) (k : Nat) : Int := zs.getD k 0

/-- The same world, but for answers that were drawn. -/
def Still (w w' : World) : Prop := ∃ n, w' = w.drewN n
theorem Still.refl (w : World) : Still w w := ⟨0, rfl⟩
theorem Still.trans {a b c : World} (h : Still a b) (k : Still b c) : Still a c := by
  obtain ⟨n, rfl⟩ := h; obtain ⟨m, rfl⟩ := k; exact ⟨_, World.drewN_drewN _ _ _⟩
theorem Still.drewN {a b : World} (h : Still a b) (n : Nat) : Still a (b.drewN n) := h.trans ⟨n, rfl⟩
theorem Still.drew {a b : World} (h : Still a b) : Still a b.drew := h.trans ⟨1, rfl⟩
theorem Still.cell {w w' : World} (h : Still w w') (a : Addr) : w'.cell? a = w.cell? a := by obtain ⟨n, rfl⟩ := h; rfl
theorem Still.frozen {w w' : World} (h : Still w w') (a : Addr) : w'.frozen? a = w.frozen? a := by obtain ⟨n, rfl⟩ := h; rfl
theorem Still.heap {w w' : World} (h : Still w w') : w'.heap = w.heap := by obtain ⟨n, rfl⟩ := h; rfl
theorem Still.below {w w' : World} (h : Still w w') (B : Nat) : Below B w w' := by
  obtain ⟨n, rfl⟩ := h; exact ⟨rfl, rfl, rfl, Nat.le_refl _, fun _ _ => rfl⟩

/-- A slice value that reads as a list of numbers. -/
structure IntsAt (w : World) (p : Option Addr) (n : Nat) (zs : List Int) : Prop where
  len : n = zs.length
  max : n ≤ maxLen
  at_ : 0 < n → ∃ b off, p = some ⟨b, off, none⟩ ∧ b < w.heap.size ∧ ∀ k, k < n → w.cell? ⟨b, off + k, none⟩ = some (.int .i64 (nth zs k))



theorem eq_of_getD (xs ys : List Int) (hl : xs.length = ys.length) (h : ∀ j, j < xs.length → nth xs j = nth ys j) : xs = ys := by
  refine List.ext_getElem hl fun i h1 h2 => ?_
  have := h i h1
  simpa [nth, List.getD_eq_getElem?_getD, h1, h2] using this

theorem same16 (p q : Option Addr) (n m c d : Nat) (xs ys : List Int) (w : World) (hx : IntsAt w p n xs) (hy : IntsAt w q m ys) :
    Calls Try.prog 16 #[.slice p n c, .slice q m d] w fun e w' => e = .returned (.bool (decide (xs = ys))) ∧ Still w w' := by
  obtain ⟨hx1, hx2, hx3⟩ := hx
  obtain ⟨hy1, hy2, hy3⟩ := hy
  have HX := Lib.hid hx1; clear hx1
  have HY := Lib.hid hy1; clear hy1
  unfold maxLen at hx2 hy2
  by_cases hnm : n = m
  · subst hnm
    go_enter Try.func16, Try.ntmps16
    go_wp2
    go_loopw [5] (fun i wr => ∃ k : Nat, k ≤ n ∧ i = .int .i64 k ∧ (∀ j, j < k → nth xs j = nth ys j) ∧ Still w wr) (fun i _ => n - (intOf i).toNat)
    case atStart => exact ⟨0, Nat.zero_le _, rfl, fun j h => absurd h (Nat.not_lt_zero _), Still.refl _⟩
    case round =>
      obtain ⟨k, hk, rfl, hpre, hs⟩ := hrel
      have HP := Lib.hid hpre; clear hpre
      by_cases hlt : k < n
      · obtain ⟨b, off, rfl, hb, hc⟩ := hx3 (by omega)
        obtain ⟨b', off', rfl, hb', hc'⟩ := hy3 (by omega)
        have h1 := (hs.cell _).trans (hc k hlt)
        have h2 := (hs.cell _).trans (hc' k hlt)
        clear hc hc' hx3 hy3
        go_wp2
        go_quiet (fail)
        go_wp2
        · go_ret
          have hne : (nth xs k != nth ys k) = true := by assumption
          refine ⟨?_, hs.drewN _⟩
          refine ret_bool ?_
          rw [eq_comm, decide_eq_false_iff_not]
          intro h; subst h; simp at hne
        · have he : (nth xs k != nth ys k) = false := by assumption
          replace he : nth xs k = nth ys k := by simpa using he
          go_roundw
          case rel => exact ⟨k + 1, by omega, by go_num, fun j hj => (Nat.lt_succ_iff_lt_or_eq.1 hj).elim (HP.out j) (fun e => by subst e; exact he), hs.drewN _⟩
          case measure => simp [intOf]; omega
      · go_wp2
        go_ret
        refine ⟨?_, hs⟩
        refine ret_bool ?_
        rw [eq_comm, decide_eq_true_iff]
        have hx := HX.out; have hy := HY.out
        exact eq_of_getD xs ys (by omega) (fun j hj => HP.out j (by omega))
  · have hne : ((n : Int) != (m : Int)) = true := by simp; omega
    go_enter Try.func16, Try.ntmps16
    go_wp2
    go_ret
    refine ⟨?_, Still.refl _⟩
    have hx := HX.out; have hy := HY.out
    refine ret_bool ?_
    rw [eq_comm, decide_eq_false_iff_not]
    intro h; subst h; omega
end Go.Proofs.Yteamiconagjpcaa
