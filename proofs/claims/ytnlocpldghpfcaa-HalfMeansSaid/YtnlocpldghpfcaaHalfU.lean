/- Rows that lie one over the other, half by half: what may be told of them (plain law; begun). -/
import Derived.Test.YtnlocpldghpfcaaHalfT
namespace Go.Proofs.Ytnlocpldghpfcaa
open Go Go.RowKit Coup

def halvesR (x : RowD) : List (List UInt8) := halvesL x.1.toNat x.2.1.toNat x.2.2
/-- The half at a place, as the picks say. -/
def mixAt (R : List RowD) (picks : List Int) (i : Nat) : List UInt8 :=
  match picks[i]? with
  | some k => if 0 < k ∧ k ≤ R.length then (match R[k.toNat - 1]? with | some x => ((halvesR x)[i]?).getD (zerosB 64) | none => zerosB 64) else zerosB 64
  | none => zerosB 64
def mostR (R : List RowD) : Nat := R.foldl (fun m x => max m (manyN x.2.2.length)) 0
def mixL (R : List RowD) (picks : List Int) : List (List UInt8) := (List.range (mostR R)).map (mixAt R picks)
theorem zero_half : mayT (hCount (zerosB 64)) (hNum (zerosB 64)) = false := by decide
theorem halvesR_get (x : RowD) (i : Nat) (h : i < manyN x.2.2.length) : (halvesR x)[i]? = some (halfB x.1.toNat x.2.1.toNat i (manyN x.2.2.length) (pieceB x.2.2 i)) := halvesL_get _ _ _ _ h
theorem halvesR_none (x : RowD) (i : Nat) (h : manyN x.2.2.length ≤ i) : (halvesR x)[i]? = none := List.getElem?_eq_none (by rw [halvesR, halvesL_len]; exact h)
/-- A place has noughts, or a half of the row that its pick names. -/
theorem mixAt_cases (R : List RowD) (picks : List Int) (i : Nat) : mixAt R picks i = zerosB 64 ∨ ∃ (r : Nat) (x : RowD), picks[i]? = some ((r : Int) + 1) ∧ R[r]? = some x ∧ i < manyN x.2.2.length ∧ mixAt R picks i = halfB x.1.toNat x.2.1.toNat i (manyN x.2.2.length) (pieceB x.2.2 i) := by
  unfold mixAt
  cases hp : picks[i]? with
  | none => left; rfl
  | some k =>
    by_cases hk : 0 < k ∧ k ≤ R.length
    · simp only [if_pos hk]
      obtain ⟨x, hx⟩ : ∃ x, R[k.toNat - 1]? = some x := ⟨_, List.getElem?_eq_getElem (by omega)⟩
      simp only [hx]
      by_cases hi : i < manyN x.2.2.length
      · right
        refine ⟨k.toNat - 1, x, by congr 1; omega, hx, hi, ?_⟩
        rw [halvesR_get x i hi]; rfl
      · left; rw [halvesR_none x i (by omega)]; rfl
    · left; simp only [if_neg hk]
theorem mixAt_len (R : List RowD) (picks : List Int) (i : Nat) : (mixAt R picks i).length = 64 := by
  rcases mixAt_cases R picks i with h | ⟨r, x, _, _, hi, h⟩
  · rw [h]; simp [zerosB]
  · rw [h, halfB_length, pieceB_length _ _ hi]
theorem mixL_len (R : List RowD) (picks : List Int) : (mixL R picks).length = mostR R := by simp [mixL]
theorem mixL_64 (R : List RowD) (picks : List Int) : ∀ l, l ∈ mixL R picks → l.length = 64 := by
  intro l hl
  obtain ⟨i, _, rfl⟩ := List.mem_map.1 hl
  exact mixAt_len R picks i
theorem mix_half (R : List RowD) (picks : List Int) (i : Nat) (hi : i < mostR R) : halfAt (secs (mixL R picks)) i = mixAt R picks i := by
  have h1 := half_flat (mixL R picks) (zerosB (128 * (((mixL R picks).length + 1) / 2) - 64 * (mixL R picks).length)) (mixL_64 R picks) i (by rw [mixL_len]; exact hi)
  rw [← secs_flat _ (mixL_64 R picks), mixL, List.getElem?_map, List.getElem?_range hi] at h1
  exact (Option.some.inj h1).symm
theorem mix_pad (R : List RowD) (picks : List Int) (h : mostR R % 2 = 1) : halfAt (secs (mixL R picks)) (mostR R) = zerosB 64 := by
  rw [halfAt, secs_flat _ (mixL_64 R picks), drop_app _ _ _ (by rw [flat64 _ (mixL_64 R picks), mixL_len]), mixL_len, zerosB, show 128 * ((mostR R + 1) / 2) - 64 * mostR R = 64 by omega]
  rfl
theorem goodH_may {h : List UInt8} {c nn i m : Nat} (hg : goodH h c nn i m = true) : mayT (hCount h) (hNum h) = true := by
  simp only [goodH, Bool.and_eq_true] at hg
  exact hg.1.1.1
theorem zero_bad (c nn i m : Nat) : goodH (zerosB 64) c nn i m = false := by
  cases hg : goodH (zerosB 64) c nn i m with
  | false => rfl
  | true => have := goodH_may hg; rw [zero_half] at this; cases this
/-- What is told of a mixture is just one row, and all picks name it. -/
theorem mix_told (R : List RowD) (picks : List Int) (N : Nat) (hG : Good R) (hN : N = (mostR R + 1) / 2) (hj : joinIs (secs (mixL R picks)) N = true) :
    ∃ (r : Nat) (x : RowD), R[r]? = some x ∧ hCount (halfAt (secs (mixL R picks)) 0) = x.1.toNat ∧ hNum (halfAt (secs (mixL R picks)) 0) = x.2.1.toNat ∧ joinB (secs (mixL R picks)) = x.2.2 ∧
      ∀ k, k < manyN x.2.2.length → picks[k]? = some ((r : Int) + 1) := by
  have hJ := hj
  unfold joinIs joinMay joinOk at hJ
  simp only [Bool.and_eq_true, decide_eq_true_eq, List.all_eq_true, List.mem_range] at hJ
  obtain ⟨⟨h0, ⟨⟨⟨hmay, hm1⟩, hm2⟩, hm3⟩⟩, ⟨⟨hall, hK⟩, hmk⟩, hz⟩ := hJ
  have hJB : joinB (secs (mixL R picks)) = ((bodies (secs (mixL R picks)) (hMany (halfAt (secs (mixL R picks)) 0))).drop 4).take (joinK (secs (mixL R picks)) (hMany (halfAt (secs (mixL R picks)) 0))) := rfl
  rw [hJB]
  clear hJB hj hz
  generalize hCount (halfAt (secs (mixL R picks)) 0) = c at *
  generalize hNum (halfAt (secs (mixL R picks)) 0) = nn at *
  generalize hMany (halfAt (secs (mixL R picks)) 0) = m at *
  have each : ∀ i, i < m → ∃ (r : Nat) (x : RowD), picks[i]? = some ((r : Int) + 1) ∧ R[r]? = some x ∧ i < manyN x.2.2.length ∧ halfAt (secs (mixL R picks)) i = halfB x.1.toNat x.2.1.toNat i (manyN x.2.2.length) (pieceB x.2.2 i) ∧ x.1 = (c : Int) ∧ x.2.1 = (nn : Int) ∧ manyN x.2.2.length = m := by
    intro i hi
    have hg := hall i hi
    have him : i < mostR R := by
      rcases Nat.lt_or_ge i (mostR R) with h | h
      · exact h
      · have : i = mostR R ∧ mostR R % 2 = 1 := by omega
        rw [this.1, mix_pad R picks this.2, zero_bad] at hg; cases hg
    rw [mix_half R picks i him] at hg
    rcases mixAt_cases R picks i with h | ⟨r, x, hp, hx, hmx, h⟩
    · rw [h, zero_bad] at hg; cases hg
    · have hok := hG.ok r x hx
      have hmb := may_bounds hok.1
      have hl3 := hok.2
      have hmany : manyN x.2.2.length ≤ 700 := by unfold manyN; omega
      obtain ⟨f1, f2, -, f4, -⟩ := halfB_fields x.1.toNat x.2.1.toNat i (manyN x.2.2.length) (pieceB x.2.2 i)
      rw [h] at hg
      simp only [goodH, Bool.and_eq_true, decide_eq_true_eq] at hg
      obtain ⟨⟨⟨-, g1, g2⟩, -⟩, g4⟩ := hg
      rw [f1, Nat.mod_eq_of_lt (by omega)] at g1
      rw [f2, Nat.mod_eq_of_lt (by omega)] at g2
      rw [f4, Nat.mod_eq_of_lt (by omega)] at g4
      exact ⟨r, x, hp, hx, hmx, by rw [mix_half R picks i him, h], by omega, by omega, g4⟩
  obtain ⟨r, x, hp, hx, hmx, hh, hc, hn, hxm⟩ := each 0 (by omega)
  have same : ∀ i, i < m → picks[i]? = some ((r : Int) + 1) ∧ halfAt (secs (mixL R picks)) i = halfB x.1.toNat x.2.1.toNat i (manyN x.2.2.length) (pieceB x.2.2 i) := by
    intro i hi
    obtain ⟨r', x', hp', hx', _, hh', hc', hn', _⟩ := each i hi
    have hr : r' = r := by
      rcases Nat.lt_trichotomy r' r with h | h | h
      · exact absurd ⟨hc'.trans hc.symm, hn'.trans hn.symm⟩ (hG.un r r' x x' h hx hx')
      · exact h
      · exact absurd ⟨hc.trans hc'.symm, hn.trans hn'.symm⟩ (hG.un r' r x' x h hx' hx)
    subst hr
    rw [hx] at hx'; cases hx'
    exact ⟨hp', hh'⟩
  have hbod : bodies (secs (mixL R picks)) m = allB x.2.2 := bodies_eq _ _ _ (by rw [allB_length, hxm]) fun i hi => by
    rw [(same i hi).2, (halfB_fields _ _ _ _ _).2.2.2.2]; rfl
  have hl3 := (hG.ok r x hx).2
  have hKx : joinK (secs (mixL R picks)) m = x.2.2.length := by rw [joinK, hbod, allB_take, numB_beB, Nat.mod_eq_of_lt (by omega)]
  refine ⟨r, x, hx, by omega, by omega, by rw [hKx, hbod, allB_mid], fun k hk => (same k (by omega)).1⟩
end Go.Proofs.Ytnlocpldghpfcaa
