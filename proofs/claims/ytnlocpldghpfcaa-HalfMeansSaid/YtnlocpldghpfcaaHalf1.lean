/- Contracts of the small functions of half and of its reference: which tags may be, how many halves and sectors a row needs. -/
import Derived.Test.YtnlocpldghpfcaaProg
import Derived.Test.YtnlocpldghpfcaaLib
namespace Go.Proofs.Ytnlocpldghpfcaa
open Go Go.RowKit Coup

/-- 2^62. -/
def maxCount : Int := 4611686018427387904
def mayT (c n : Int) : Bool := decide (1 ≤ c) && decide (c ≤ maxCount) && decide (0 ≤ n) && decide (n < 2147483648)
def tagV (c n : Int) : Value := .agg #[.int .u64 c, .int .i64 n]

theorem may_cases (c n : Int) : (Hid (mayT c n = false) ∧ c < 1) ∨ (Hid (mayT c n = false) ∧ 1 ≤ c ∧ 4611686018427387904 < c) ∨ (Hid (mayT c n = false) ∧ 1 ≤ c ∧ c ≤ 4611686018427387904 ∧ n < 0) ∨
    (Hid (mayT c n = false) ∧ 1 ≤ c ∧ c ≤ 4611686018427387904 ∧ 0 ≤ n ∧ 2147483648 ≤ n) ∨ (Hid (mayT c n = true) ∧ 1 ≤ c ∧ c ≤ 4611686018427387904 ∧ 0 ≤ n ∧ n < 2147483648) := by
  have h : ∀ b, (mayT c n = b) = ((decide (1 ≤ c) && decide (c ≤ 4611686018427387904) && decide (0 ≤ n) && decide (n < 2147483648)) = b) := fun _ => rfl
  simp only [Hid, h]
  by_cases h1 : 1 ≤ c
  · by_cases h2 : c ≤ 4611686018427387904
    · by_cases h3 : 0 ≤ n
      · by_cases h4 : n < 2147483648
        · right; right; right; right; simp [h1, h2, h3, h4]
        · right; right; right; left; simp [h1, h2, h3, h4]; omega
      · right; right; left; simp [h1, h2, h3]; omega
    · right; left; simp [h1, h2]; omega
  · left; simp [h1]; omega

theorem may10 (c n : Int) (w : World) : Calls Try.prog 10 #[.agg #[.int .u64 c, .int .i64 n]] w fun e w' => e = .returned (.bool (mayT c n)) ∧ Below w.heap.size w w' := by
  rcases may_cases c n with ⟨HM, h1⟩ | ⟨HM, h1, h2⟩ | ⟨HM, h1, h2, h3⟩ | ⟨HM, h1, h2, h3, h4⟩ | ⟨HM, h1, h2, h3, h4⟩
  all_goals
    go_enter Try.func10, Try.ntmps10
    go_wp2
    go_ret
    exact ⟨ret_bool (by rw [HM.out]; try (first | rfl | (simp <;> omega))), (Below.refl _ _).alloc (Nat.le_refl _) _⟩

theorem may11 (c n : Int) (w : World) : Calls Try.prog 11 #[.agg #[.int .u64 c, .int .i64 n]] w fun e w' => e = .returned (.bool (mayT c n)) ∧ Below w.heap.size w w' := by
  rcases may_cases c n with ⟨HM, h1⟩ | ⟨HM, h1, h2⟩ | ⟨HM, h1, h2, h3⟩ | ⟨HM, h1, h2, h3, h4⟩ | ⟨HM, h1, h2, h3, h4⟩
  all_goals
    go_enter Try.func11, Try.ntmps11
    go_wp2
    go_ret
    exact ⟨ret_bool (by rw [HM.out]; try (first | rfl | (simp <;> omega))), (Below.refl _ _).alloc (Nat.le_refl _) _⟩

/-- How many halves so many bytes need. -/
def manyN (n : Nat) : Nat := (n + 51) / 48
theorem halves26 (n : Nat) (hn : n ≤ 1000000) (w : World) : Calls Try.prog 26 #[.int .i64 n] w fun e w' => e = .returned (.int .i64 (manyN n)) ∧ w = w' := by
  go_enter Try.func26, Try.ntmps26
  go_wp2
  go_ret
  exact ⟨ret_int (by rw [manyN]; omega), rfl⟩

/-- How many sectors: of a row that is not too long. -/
def needZ (n : Int) : Int := if 0 ≤ n ∧ n ≤ 32768 then ((manyN n.toNat + 1) / 2 : Nat) else 0
theorem needZ_no {n : Int} (h : ¬ (0 ≤ n ∧ n ≤ 32768)) : needZ n = 0 := if_neg h
theorem needZ_nat {n : Nat} (h : n ≤ 32768) : needZ n = ((manyN n + 1) / 2 : Nat) := by rw [needZ, if_pos (by omega), Int.toNat_natCast]
theorem need12 (n : Int) (w : World) : Calls Try.prog 12 #[.int .i64 n] w fun e w' => e = .returned (.int .i64 (needZ n)) ∧ w = w' := by
  by_cases h0 : n < 0
  · have HN := Lib.hid (needZ_no (n := n) (by omega))
    go_enter Try.func12, Try.ntmps12
    go_wp2
    go_ret
    exact ⟨ret_int HN.out.symm, rfl⟩
  · by_cases h1 : 32768 < n
    · have HN := Lib.hid (needZ_no (n := n) (by omega))
      go_enter Try.func12, Try.ntmps12
      go_wp2
      go_ret
      exact ⟨ret_int HN.out.symm, rfl⟩
    · obtain ⟨m, rfl⟩ := Int.eq_ofNat_of_zero_le (by omega : 0 ≤ n)
      have HN := Lib.hid (needZ_nat (n := m) (by omega))
      have hb : manyN m ≤ 1000 := by unfold manyN; omega
      go_enter Try.func12, Try.ntmps12
      go_wp2_with (first | (go_at_call 26; refine (halves26 _ (by omega) _).mono ?_; rintro e w' ⟨rfl, rfl⟩))
      go_ret
      refine ⟨ret_int ?_, rfl⟩
      rw [HN.out]
      omega

theorem many28 (n : Nat) (hn : n ≤ 1000000) (w : World) : Calls Try.prog 28 #[.int .i64 n] w fun e w' => e = .returned (.int .i64 (manyN n)) ∧ w = w' := by
  go_enter Try.func28, Try.ntmps28
  go_wp2
  go_loop [3] (fun m => ∃ k : Nat, m = .int .i64 k ∧ 1 ≤ k ∧ 48 * (k - 1) < 4 + n) (fun m => 1000000 - (intOf m).toNat)
  case atStart => exact ⟨1, rfl, by omega, by omega⟩
  case round =>
    obtain ⟨k, rfl, hk1, hk2⟩ := hrel
    by_cases hlt : 48 * k < 4 + n
    · go_wp2
      go_round
      case rel => exact ⟨k + 1, by go_num, by omega, by omega⟩
      case measure => simp [intOf] <;> omega
    · go_wp2
      go_ret
      exact ⟨ret_int (by rw [manyN]; omega), rfl⟩
end Go.Proofs.Ytnlocpldghpfcaa
