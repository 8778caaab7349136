/- Numbers as bytes, the greatest first: code's and reference's. -/
import Derived.Test.YtnlocpldghpfcaaHalf1
import Derived.Test.YtnlocpldghpfcaaBlk
namespace Go.Proofs.Ytnlocpldghpfcaa
open Go Go.RowKit Coup

theorem need13 (n : Int) (w : World) : Calls Try.prog 13 #[.int .i64 n] w fun e w' => e = .returned (.int .i64 (needZ n)) ∧ w = w' := by
  by_cases h0 : n < 0
  · have HN := Lib.hid (needZ_no (n := n) (by omega))
    go_enter Try.func13, Try.ntmps13
    go_wp2
    go_ret
    exact ⟨ret_int HN.out.symm, rfl⟩
  · by_cases h1 : 32768 < n
    · have HN := Lib.hid (needZ_no (n := n) (by omega))
      go_enter Try.func13, Try.ntmps13
      go_wp2
      go_ret
      exact ⟨ret_int HN.out.symm, rfl⟩
    · obtain ⟨m, rfl⟩ := Int.eq_ofNat_of_zero_le (by omega : 0 ≤ n)
      have HN := Lib.hid (needZ_nat (n := m) (by omega))
      have hb : manyN m ≤ 1000 := by unfold manyN; omega
      go_enter Try.func13, Try.ntmps13
      go_wp2_with (first | (go_at_call 28; refine (many28 _ (by omega) _).mono ?_; rintro e w' ⟨rfl, rfl⟩))
      go_ret
      refine ⟨ret_int ?_, rfl⟩
      rw [HN.out]
      omega

theorem snocInd {α : Type} {p : List α → Prop} (h0 : p []) (h1 : ∀ l b, p l → p (l ++ [b])) (l : List α) : p l := by
  have : ∀ m : List α, p m.reverse := fun m => by
    induction m with
    | nil => exact h0
    | cons b m ih => rw [List.reverse_cons]; exact h1 _ _ ih
  have := this l.reverse
  rwa [List.reverse_reverse] at this
/-- The number that bytes are. -/
def numB (l : List UInt8) : Nat := l.foldl (fun a b => 256 * a + b.toNat) 0
theorem foldB (l : List UInt8) : ∀ a : Nat, l.foldl (fun a b => 256 * a + b.toNat) a = a * 256 ^ l.length + numB l := by
  induction l with
  | nil => intro a; simp [numB]
  | cons b l ih =>
    intro a
    rw [numB, List.foldl_cons, List.foldl_cons, ih, ih]
    simp only [List.length_cons, Nat.pow_succ]
    rw [Nat.add_mul, Nat.add_mul]
    have : 256 * a * 256 ^ l.length = a * (256 ^ l.length * 256) := by rw [Nat.mul_comm 256 a, Nat.mul_assoc, Nat.mul_comm 256]
    omega
theorem numB_append (l m : List UInt8) : numB (l ++ m) = numB l * 256 ^ m.length + numB m := by
  rw [numB, List.foldl_append, foldB]; rfl
theorem numB_snoc (l : List UInt8) (b : UInt8) : numB (l ++ [b]) = 256 * numB l + b.toNat := by
  rw [numB_append]; simp [numB]; omega
theorem numB_lt (l : List UInt8) : numB l < 256 ^ l.length := by
  refine snocInd (p := fun l => numB l < 256 ^ l.length) ?_ ?_ l
  · simp [numB]
  · intro l b ih
    rw [numB_snoc, List.length_append, List.length_singleton, Nat.pow_succ]
    have := b.toNat_lt
    omega
/-- A number's bytes. -/
def beB : Nat → Nat → List UInt8
  | 0, _ => []
  | k + 1, n => beB k (n / 256) ++ [UInt8.ofNat n]
theorem beB_length (k n : Nat) : (beB k n).length = k := by
  induction k generalizing n with
  | zero => rfl
  | succ k ih => simp [beB, ih]
theorem numB_beB (k n : Nat) : numB (beB k n) = n % 256 ^ k := by
  induction k generalizing n with
  | zero => simp [beB, numB, Nat.mod_one]
  | succ k ih =>
    rw [beB, numB_snoc, ih, Nat.pow_succ, Nat.mul_comm (256 ^ k) 256, Nat.mod_mul]
    simp
    omega
theorem beB_numB (l : List UInt8) : beB l.length (numB l) = l := by
  refine snocInd (p := fun l => beB l.length (numB l) = l) rfl ?_ l
  · intro l b ih
    rw [List.length_append, List.length_singleton, beB, numB_snoc]
    have hb := b.toNat_lt
    rw [show (256 * numB l + b.toNat) / 256 = numB l by omega, ih]
    congr 2
    apply UInt8.toNat.inj
    simp
end Go.Proofs.Ytnlocpldghpfcaa
