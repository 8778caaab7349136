/- A row is read back, whatever stands behind it. -/
import Derived.Test.YtnlocpldghpfcaaHalfL
namespace Go.Proofs.Ytnlocpldghpfcaa
open Go Go.RowKit Coup

theorem half_flat (L : List (List UInt8)) (X : List UInt8) (h : ∀ l, l ∈ L → l.length = 64) (i : Nat) (hi : i < L.length) : L[i]? = some (halfAt (L.flatten ++ X) i) := by
  induction L generalizing i with
  | nil => simp at hi
  | cons a L ih =>
    have ha := h a (by simp)
    rw [halfAt, List.flatten_cons, List.append_assoc]
    cases i with
    | zero => rw [Nat.mul_zero, List.drop_zero, take_app _ _ 64 ha]; rfl
    | succ i =>
      have := ih (fun l hl => h l (by simp [hl])) i (by simpa using hi)
      rw [List.getElem?_cons_succ, this, halfAt, show 64 * (i + 1) = 64 + 64 * i by omega, ← List.drop_drop, drop_app _ _ 64 ha]
theorem row_half (c nn : Nat) (b X : List UInt8) (i : Nat) (hi : i < manyN b.length) : halfAt (rowB c nn b ++ X) i = halfB c nn i (manyN b.length) (pieceB b i) := by
  have h1 := half_flat (halvesL c nn b) (zerosB (128 * needN b.length - 64 * manyN b.length) ++ X) (halvesL_64 c nn b) i (by rw [halvesL_len]; exact hi)
  rw [halvesL_get c nn b i hi] at h1
  rw [rowB, List.append_assoc]
  exact (Option.some.inj h1).symm
theorem rowB_len (c nn : Nat) (b : List UInt8) : (rowB c nn b).length = 128 * needN b.length := by
  rw [rowB, List.length_append, flat64 _ (halvesL_64 c nn b), halvesL_len, zerosB, List.length_replicate]
  unfold needN; omega
theorem manyN_pos (n : Nat) : 1 ≤ manyN n := by unfold manyN; omega
theorem manyN_max {n : Nat} (h : n ≤ 32768) : manyN n ≤ 683 := by unfold manyN; omega
theorem allB_take (b : List UInt8) : (allB b).take 4 = beB 4 b.length := by rw [allB, List.append_assoc, take_app _ _ 4 (beB_length _ _)]
theorem allB_mid (b : List UInt8) : ((allB b).drop 4).take b.length = b := by rw [allB, List.append_assoc, drop_app _ _ 4 (beB_length _ _), take_app _ _ _ rfl]
structure Told (l : List UInt8) (n c nn : Nat) (b : List UInt8) : Prop where
  is : joinIs l n = true
  c : hCount (halfAt l 0) = c
  n : hNum (halfAt l 0) = nn
  b : joinB l = b
theorem told_row (c nn : Nat) (b X : List UInt8) (n : Nat) (hm : mayT c nn = true) (hb : b.length ≤ 32768) (hn : needN b.length ≤ n) (hl : (rowB c nn b ++ X).length = n * 128) : Told (rowB c nn b ++ X) n c nn b := by
  have hmb := may_bounds hm
  have hp := manyN_pos b.length
  have hmx := manyN_max hb
  have h0 := row_half c nn b X 0 (by omega)
  obtain ⟨f1, f2, -, f4, -⟩ := halfB_fields c nn 0 (manyN b.length) (pieceB b 0)
  rw [← h0, Nat.mod_eq_of_lt (by omega)] at f1
  rw [← h0, Nat.mod_eq_of_lt (by omega)] at f2
  rw [← h0, Nat.mod_eq_of_lt (by omega)] at f4
  have hml : 64 * manyN b.length ≤ (rowB c nn b ++ X).length := by rw [hl]; unfold needN at hn; omega
  have hbod : bodies (rowB c nn b ++ X) (manyN b.length) = allB b := bodies_eq _ _ _ (allB_length b) fun i hi => by
    rw [row_half c nn b X i hi, (halfB_fields c nn i _ _).2.2.2.2]; rfl
  have hK : joinK (rowB c nn b ++ X) (manyN b.length) = b.length := by
    rw [joinK, hbod, allB_take, numB_beB, Nat.mod_eq_of_lt (by omega)]
  have hJB : joinB (rowB c nn b ++ X) = b := by rw [joinB, f4, hK, hbod, allB_mid]
  refine ⟨?_, f1, f2, hJB⟩
  rw [← refIs_eq _ _ hl]
  have ht := tag_yes (h := halfAt (rowB c nn b ++ X) 0) (by rw [f1, f2]; exact hm)
  unfold refIs refOk
  rw [ht.1, ht.2, f1, f2, f4, hm, refK_eq _ _ hml hp, hK, hJB, decide_eq_true (by omega : 0 < n), decide_eq_true (by unfold needN at hn; omega : 1 ≤ manyN b.length ∧ manyN b.length ≤ 2 * n), decide_eq_true (by omega : b.length ≤ 32768 ∧ manyN b.length = manyN b.length)]
  simp only [Bool.true_and]
  refine List.all_eq_true.2 fun i hi => ?_
  have hi' := List.mem_range.1 hi
  rw [halvesL_get c nn b i hi', row_half c nn b X i hi']
  simp
end Go.Proofs.Ytnlocpldghpfcaa
