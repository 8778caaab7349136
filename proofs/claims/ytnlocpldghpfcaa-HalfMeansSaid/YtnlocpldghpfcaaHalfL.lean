/- The reference's row is the code's. -/
import Derived.Test.YtnlocpldghpfcaaHalfK
namespace Go.Proofs.Ytnlocpldghpfcaa
open Go Go.RowKit Coup

theorem half_ext (h : List UInt8) (hl : h.length = 64) : halfB (hCount h) (hNum h) (hPlace h) (hMany h) (hBody h) = h := by
  have e1 : beB 8 (hCount h) = h.take 8 := by
    have := beB_numB (h.take 8); rwa [show (h.take 8).length = 8 by simp; omega] at this
  have e2 : beB 4 (hNum h) = (h.drop 8).take 4 := by
    have := beB_numB ((h.drop 8).take 4); rwa [show ((h.drop 8).take 4).length = 4 by simp; omega] at this
  have e3 : beB 2 (hPlace h) = (h.drop 12).take 2 := by
    have := beB_numB ((h.drop 12).take 2); rwa [show ((h.drop 12).take 2).length = 2 by simp; omega] at this
  have e4 : beB 2 (hMany h) = (h.drop 14).take 2 := by
    have := beB_numB ((h.drop 14).take 2); rwa [show ((h.drop 14).take 2).length = 2 by simp; omega] at this
  rw [halfB, e1, e2, e3, e4, hBody]
  have s1 := List.take_append_drop 8 h
  have s2 := List.take_append_drop 4 (h.drop 8)
  have s3 := List.take_append_drop 2 (h.drop 12)
  have s4 := List.take_append_drop 2 (h.drop 14)
  rw [List.drop_drop] at s2 s3 s4
  rw [s4, s3, s2, s1]
theorem take_app {α : Type} (a b : List α) (k : Nat) (h : a.length = k) : (a ++ b).take k = a := by rw [List.take_append_of_le_length (by omega), List.take_of_length_le (by omega)]
theorem drop_app {α : Type} (a b : List α) (k : Nat) (h : a.length = k) : (a ++ b).drop k = b := by rw [List.drop_append_of_le_length (by omega), List.drop_of_length_le (by omega), List.nil_append]
theorem halfB_fields (c n p m : Nat) (b : List UInt8) : hCount (halfB c n p m b) = c % 256 ^ 8 ∧ hNum (halfB c n p m b) = n % 256 ^ 4 ∧ hPlace (halfB c n p m b) = p % 256 ^ 2 ∧ hMany (halfB c n p m b) = m % 256 ^ 2 ∧ hBody (halfB c n p m b) = b := by
  have d8 : (halfB c n p m b).drop 8 = beB 4 n ++ (beB 2 p ++ (beB 2 m ++ b)) := drop_app _ _ _ (beB_length _ _)
  have d12 : (halfB c n p m b).drop 12 = beB 2 p ++ (beB 2 m ++ b) := by
    have := drop_app (beB 4 n) (beB 2 p ++ (beB 2 m ++ b)) 4 (beB_length _ _)
    rw [← d8, List.drop_drop] at this; exact this
  have d14 : (halfB c n p m b).drop 14 = beB 2 m ++ b := by
    have := drop_app (beB 2 p) (beB 2 m ++ b) 2 (beB_length _ _)
    rw [← d12, List.drop_drop] at this; exact this
  have d16 : (halfB c n p m b).drop 16 = b := by
    have := drop_app (beB 2 m) b 2 (beB_length _ _)
    rw [← d14, List.drop_drop] at this; exact this
  refine ⟨?_, ?_, ?_, ?_, d16⟩
  · rw [hCount, halfB, take_app _ _ 8 (beB_length _ _), numB_beB]
  · rw [hNum, d8, take_app _ _ 4 (beB_length _ _), numB_beB]
  · rw [hPlace, d12, take_app _ _ 2 (beB_length _ _), numB_beB]
  · rw [hMany, d14, take_app _ _ 2 (beB_length _ _), numB_beB]
theorem chunks (X : List UInt8) : ∀ k, 48 * k ≤ X.length → ((List.range k).flatMap fun i => (X.drop (48 * i)).take 48) = X.take (48 * k)
  | 0, _ => rfl
  | k + 1, h => by
    rw [List.range_succ, List.flatMap_append, chunks X k (by omega)]
    simp only [List.flatMap_cons, List.flatMap_nil, List.append_nil]
    rw [show 48 * (k + 1) = 48 * k + 48 by omega, List.take_add]
theorem bodies_piece (l : List UInt8) (m i : Nat) (hl : 64 * m ≤ l.length) (hi : i < m) : ((bodies l m).drop (48 * i)).take 48 = hBody (halfAt l i) := by
  induction m with
  | zero => omega
  | succ m ih =>
    have hbl := bodies_length l m (by omega)
    rw [bodies_succ]
    by_cases h : i < m
    · rw [List.drop_append_of_le_length (by omega), List.take_append_of_le_length (by rw [List.length_drop]; omega)]
      exact ih (by omega) h
    · obtain rfl : i = m := by omega
      rw [drop_app _ _ _ hbl, List.take_of_length_le (by rw [hBody, List.length_drop, halfAt_length _ _ (by omega)]; omega)]
theorem bodies_eq (l X : List UInt8) (m : Nat) (hX : X.length = 48 * m) (h : ∀ i, i < m → hBody (halfAt l i) = (X.drop (48 * i)).take 48) : bodies l m = X := by
  have := chunks X m (by omega)
  rw [List.take_of_length_le (by omega)] at this
  rw [← this, bodies]
  have key : ∀ L : List Nat, (∀ i, i ∈ L → i < m) → (L.flatMap fun i => hBody (halfAt l i)) = L.flatMap fun i => (X.drop (48 * i)).take 48 := by
    intro L
    induction L with
    | nil => intro _; rfl
    | cons a L ih => intro hL; rw [List.flatMap_cons, List.flatMap_cons, h a (hL a (by simp)), ih fun i hi => hL i (by simp [hi])]
  exact key _ fun i hi => List.mem_range.1 hi
theorem mayT_tag (h : List UInt8) : mayT (tagC h) (tagN h) = mayT (hCount h) (hNum h) := by
  unfold tagC tagN
  cases hm : mayT (hCount h) (hNum h) with
  | true => simpa using hm
  | false => show mayT ((0 : Nat) : Int) ((0 : Nat) : Int) = false; decide
theorem all_zero (z : List UInt8) : z.all (· == 0) = true ↔ z = zerosB z.length := by
  rw [List.all_eq_true, zerosB]
  constructor
  · intro h
    exact List.eq_replicate_iff.2 ⟨rfl, fun x hx => by simpa using h x hx⟩
  · intro h x hx
    rw [h] at hx
    simpa using (List.mem_replicate.1 hx).2
/-- The bytes are all of the row's, just if noughts stand behind. -/
theorem bodies_all (l : List UInt8) (m : Nat) (B : List UInt8) (hl : 64 * m ≤ l.length) (hm : manyN (joinK l m) = m) (hB : B = ((bodies l m).drop 4).take (joinK l m)) : bodies l m = allB B ↔ ((bodies l m).drop (4 + joinK l m)).all (· == 0) = true := by
  have hbl := bodies_length l m hl
  have hle := manyN_le (joinK l m)
  rw [hm] at hle
  have hBl : B.length = joinK l m := by rw [hB, List.length_take, List.length_drop, hbl]; omega
  have e4 : beB 4 (joinK l m) = (bodies l m).take 4 := by
    have := beB_numB ((bodies l m).take 4); rwa [show ((bodies l m).take 4).length = 4 by simp; omega] at this
  rw [all_zero, allB, hBl, hm, e4]
  have hsp : bodies l m = (bodies l m).take 4 ++ B ++ (bodies l m).drop (4 + joinK l m) := by
    rw [hB, List.append_assoc]
    have s2 := List.take_append_drop (joinK l m) ((bodies l m).drop 4)
    rw [List.drop_drop] at s2
    rw [s2, List.take_append_drop]
  have hz : ((bodies l m).drop (4 + joinK l m)).length = 48 * m - (4 + joinK l m) := by rw [List.length_drop, hbl]
  rw [hz]
  constructor
  · intro h
    have := hsp.symm.trans h
    exact List.append_cancel_left this
  · intro h
    rw [← h]; exact hsp
theorem refK_eq (l : List UInt8) (m : Nat) (hl : 64 * m ≤ l.length) (h1 : 1 ≤ m) : refK l = joinK l m := by
  have := bodies_piece l m 0 hl h1
  rw [joinK, refK]
  have e : (bodies l m).take 4 = (((bodies l m).drop (48 * 0)).take 48).take 4 := by rw [Nat.mul_zero, List.drop_zero, List.take_take]; rfl
  rw [e, this]; rfl
theorem tag_yes {h : List UInt8} (hm : mayT (hCount h) (hNum h) = true) : tagC h = hCount h ∧ tagN h = hNum h := by simp [tagC, tagN, hm]
theorem refIs_eq (l : List UInt8) (n : Nat) (hl : l.length = n * 128) : refIs l n = joinIs l n := by
  unfold refIs joinIs joinMay joinOk refOk
  rw [mayT_tag]
  by_cases h0 : 0 < n
  · cases hm : mayT (hCount (halfAt l 0)) (hNum (halfAt l 0)) with
    | false => simp
    | true =>
      obtain ⟨e1, e2⟩ := tag_yes hm
      rw [e1, e2]
      have hmb := may_bounds hm
      have hJB : joinB l = ((bodies l (hMany (halfAt l 0))).drop 4).take (joinK l (hMany (halfAt l 0))) := rfl
      have hmm : hMany (halfAt l 0) < 65536 := numB_lt_of _ 2 (by simp; omega)
      generalize hCount (halfAt l 0) = c at *
      generalize hNum (halfAt l 0) = nn at *
      generalize hMany (halfAt l 0) = m at *
      by_cases hm1 : 1 ≤ m ∧ m ≤ 2 * n
      · have hlm : 64 * m ≤ l.length := by omega
        rw [refK_eq l m hlm hm1.1]
        by_cases hk : joinK l m ≤ 32768 ∧ manyN (joinK l m) = m
        · have hm683 : m ≤ 683 := by have := hk.2; unfold manyN at this; omega
          have hba := bodies_all l m (joinB l) hlm hk.2 hJB
          have hbl := bodies_length l m hlm
          have hle := manyN_le (joinK l m)
          rw [hk.2] at hle
          have hBl : (joinB l).length = joinK l m := by rw [hJB, List.length_take, List.length_drop, hbl]; omega
          have hiff : (∀ i, i < m → (halvesL c nn (joinB l))[i]? = some (halfAt l i)) ↔ ((∀ i, i < m → goodH (halfAt l i) c nn i m = true) ∧ ((bodies l m).drop (4 + joinK l m)).all (· == 0) = true) := by
            have hget : ∀ i, i < m → (halvesL c nn (joinB l))[i]? = some (halfB c nn i m (pieceB (joinB l) i)) := fun i hi => by
              rw [halvesL_get c nn _ i (by rw [hBl, hk.2]; exact hi), hBl, hk.2]
            constructor
            · intro h
              have hh : ∀ i, i < m → halfB c nn i m (pieceB (joinB l) i) = halfAt l i := fun i hi => by
                have := h i hi; rw [hget i hi] at this; exact Option.some.inj this
              refine ⟨fun i hi => ?_, hba.1 (bodies_eq l _ m (by rw [allB_length, hBl, hk.2]) fun i hi => ?_)⟩
              · obtain ⟨f1, f2, f3, f4, -⟩ := halfB_fields c nn i m (pieceB (joinB l) i)
                rw [hh i hi] at f1 f2 f3 f4
                rw [goodH, f1, f2, f3, f4, Nat.mod_eq_of_lt (by omega), Nat.mod_eq_of_lt (by omega), Nat.mod_eq_of_lt (by omega), Nat.mod_eq_of_lt (by omega), hm]
                simp
              · obtain ⟨-, -, -, -, f5⟩ := halfB_fields c nn i m (pieceB (joinB l) i)
                rw [← hh i hi, f5]; rfl
            · rintro ⟨h1, h2⟩ i hi
              rw [hget i hi]
              have hg := h1 i hi
              simp only [goodH, Bool.and_eq_true, decide_eq_true_eq] at hg
              obtain ⟨⟨⟨-, g1, g2⟩, g3⟩, g4⟩ := hg
              have hp : pieceB (joinB l) i = hBody (halfAt l i) := by rw [pieceB, ← hba.2 h2, bodies_piece l m i hlm hi]
              have := half_ext (halfAt l i) (halfAt_length _ _ (by omega))
              rw [g1, g2, g3, g4] at this
              rw [hp, this]
          have hb : ((List.range m).all fun i => decide ((halvesL c nn (joinB l))[i]? = some (halfAt l i))) = ((List.range m).all (fun i => goodH (halfAt l i) c nn i m) && ((bodies l m).drop (4 + joinK l m)).all (· == 0)) := by
            rw [Bool.eq_iff_iff, Bool.and_eq_true, List.all_eq_true, List.all_eq_true]
            simp only [List.mem_range, decide_eq_true_eq]
            exact hiff
          rw [hb, decide_eq_true h0, decide_eq_true hm1, decide_eq_true hk, decide_eq_true hk.1, decide_eq_true hk.2, decide_eq_true hm1.1, decide_eq_true hm683, decide_eq_true (by omega : (m + 1) / 2 ≤ n)]
          simp
        · rw [decide_eq_false hk]
          rcases Classical.not_and_iff_not_or_not.1 hk with h | h
          · rw [decide_eq_false h]; simp
          · rw [decide_eq_false h]; simp
      · rw [decide_eq_false hm1]
        rcases Classical.not_and_iff_not_or_not.1 hm1 with h | h
        · rw [decide_eq_false h]; simp
        · rw [decide_eq_false (by omega : ¬ (m + 1) / 2 ≤ n)]; simp
  · rw [decide_eq_false h0]; simp
end Go.Proofs.Ytnlocpldghpfcaa
