/- An amount of a text: the code's way is the reference's, and a text's amount is the amount. -/
import Derived.Test.YtknjiohhlemeiaaFareZb
namespace Go.Proofs.Ytknjiohhlemeiaa
open Go Go.RowKit Coup

theorem index_app : ∀ (u : List UInt8) (c : UInt8) (v : List UInt8), c ∉ u → Lib.indexByte (u ++ c :: v) c = u.length
  | [], c, v, _ => by simp [Lib.indexByte]
  | b :: u, c, v, h => by
    have hb : b ≠ c := fun q => h (by rw [q]; simp)
    have ih := index_app u c v fun q => h (by simp [q])
    simp only [List.cons_append, Lib.indexByte, ih]
    simp [hb]
theorem cutS_app (u : List UInt8) (c : UInt8) (v : List UInt8) (h : c ∉ u) : cutS (u ++ c :: v) c = (u, v, true) := by
  rw [cutS, index_app u c v h, if_pos (by omega), Int.toNat_natCast]
  simp
theorem cutS_yes {t u v : List UInt8} {c : UInt8} (h : cutS t c = (u, v, true)) : t = u ++ c :: v := by
  unfold cutS at h
  split at h
  · rename_i h0
    obtain ⟨i, hi⟩ : ∃ i : Nat, Lib.indexByte t c = i := ⟨(Lib.indexByte t c).toNat, by omega⟩
    have h1 := (Lib.indexByte_some hi).1
    rw [hi, Int.toNat_natCast] at h
    obtain ⟨rfl, h2⟩ := Prod.mk.inj h
    obtain ⟨rfl, _⟩ := Prod.mk.inj h2
    have hl := (List.getElem?_eq_some_iff.1 h1)
    obtain ⟨hl1, hl2⟩ := hl
    rw [← hl2, List.getElem_cons_drop, List.take_append_drop]
  · simp at h
theorem trim_tl (l : List UInt8) : Lib.trimPrefix l [45] = tlR l := by
  unfold Lib.trimPrefix Lib.hasPrefix tlR
  cases l with
  | nil => rfl
  | cons x l =>
    by_cases h : x = 45
    · subst h; rfl
    · simp [h]
      intro q; exact absurd q.symm h
theorem has_tl (l : List UInt8) : Lib.hasPrefix l [45] = decide (l ≠ tlR l) := by
  unfold Lib.hasPrefix tlR
  cases l with
  | nil => rfl
  | cons x l =>
    by_cases h : x = 45
    · subst h; simp
    · have h' : ((45 : UInt8) == x) = false := by simpa using fun q : (45 : UInt8) = x => h q.symm
      have e : ([45] : List UInt8).isPrefixOf (x :: l) = false := by simp [List.isPrefixOf, h']
      rw [e]
      simp [h]
/-- What digits say. -/
def vst (n : Int) (b : UInt8) : Int := 10 * n + ((b.toNat : Int) - 48)
def valD (l : List UInt8) : Int := l.foldl vst 0
theorem dig_le {b : UInt8} (h : isDig b = true) : 48 ≤ b.toNat ∧ b.toNat ≤ 57 := by simpa [isDig] using h
theorem vst_ge : ∀ (l : List UInt8) (n : Int), 0 ≤ n → (∀ b ∈ l, isDig b = true) → n ≤ l.foldl vst n
  | [], n, _, _ => Int.le_refl _
  | b :: l, n, h, hd => by
    have h1 := dig_le (hd b (by simp))
    have h2 := vst_ge l (vst n b) (by unfold vst; omega) fun c hc => hd c (by simp [hc])
    simp only [List.foldl_cons]
    have : n ≤ vst n b := by unfold vst; omega
    omega
theorem numD_val : ∀ (l : List UInt8) (n : Int), 0 ≤ n → (∀ b ∈ l, isDig b = true) → l.foldl stepN (min n 1000000000001) = min (l.foldl vst n) 1000000000001
  | [], n, _, _ => rfl
  | b :: l, n, h, hd => by
    have h1 := dig_le (hd b (by simp))
    have e : stepN (min n 1000000000001) b = min (vst n b) 1000000000001 := by unfold stepN vst; omega
    simp only [List.foldl_cons]
    rw [e]
    exact numD_val l (vst n b) (by unfold vst; omega) fun c hc => hd c (by simp [hc])
theorem numD_min {l : List UInt8} (hd : ∀ b ∈ l, isDig b = true) : numD l = min (valD l) 1000000000001 := numD_val l 0 (by decide) hd
/-- As far as it may be, the reference's number is what the digits say. -/
def RelN (r v : Int) : Prop := (v ≤ 1000000000000 → r = v) ∧ (1000000000000 < v → 1000000000000 < r)
theorem relN : ∀ (l : List UInt8) (r v : Int), 0 ≤ v → RelN r v → (∀ b ∈ l, isDig b = true) → RelN (l.foldl stepR r) (l.foldl vst v)
  | [], r, v, _, h, _ => h
  | b :: l, r, v, h0, h, hd => by
    have h1 := dig_le (hd b (by simp))
    have hb : b ≠ 46 := fun q => by rw [q] at h1; exact absurd h1.1 (by decide)
    simp only [List.foldl_cons]
    refine relN l (stepR r b) (vst v b) (by unfold vst; omega) ?_ fun c hc => hd c (by simp [hc])
    obtain ⟨a1, a2⟩ := h
    unfold stepR vst RelN
    by_cases hv : v ≤ 1000000000000
    · have := a1 hv
      rw [if_pos ⟨hb, by omega⟩]; omega
    · have := a2 (by omega)
      rw [if_neg (by omega)]; omega
theorem all_dig {l : List UInt8} : l.all isDig = true ↔ ∀ b ∈ l, isDig b = true := List.all_eq_true
/-- The parts of a text that may be one. -/
structure PartsR (l u c : List UInt8) : Prop where
  tl : tlR l = u ++ 46 :: c
  du : ∀ b ∈ u, isDig b = true
  dc : ∀ b ∈ c, isDig b = true
  two : c.length = 2
  head : headOk u = true
  zero : l ≠ [45, 48, 46, 48, 48]
theorem PartsR.not46 {l u c : List UInt8} (h : PartsR l u c) : (46 : UInt8) ∉ u := fun q => absurd (h.du _ q) (by decide)
theorem headOk_iff {u : List UInt8} : headOk u = true ↔ u ≠ [] ∧ (u = [48] ∨ u.head? ≠ some 48) := by simp [headOk]
theorem form_parts {l : List UInt8} (h : FormR l) : ∃ u c, PartsR l u c := by
  obtain ⟨⟨h4, hp, hh, hz⟩, hd⟩ := h
  obtain ⟨t, ht⟩ : ∃ t, tlR l = t := ⟨_, rfl⟩
  rw [ht] at h4 hp hh hd
  obtain ⟨hl1, hl2⟩ := List.getElem?_eq_some_iff.1 hp
  have e : t = t.take (t.length - 3) ++ 46 :: t.drop (t.length - 3 + 1) := by
    rw [← hl2, List.getElem_cons_drop, List.take_append_drop]
  refine ⟨t.take (t.length - 3), t.drop (t.length - 3 + 1), ht.trans e, fun b hb => ?_, fun b hb => ?_, by simp; omega, headOk_iff.2 ⟨fun q => ?_, ?_⟩, hz⟩
  · obtain ⟨j, hj⟩ := List.mem_iff_getElem?.1 hb
    obtain ⟨hj1, _⟩ := List.getElem?_eq_some_iff.1 hj
    rw [List.length_take] at hj1
    rw [List.getElem?_take_of_lt (by omega)] at hj
    exact hd j b hj (by omega)
  · obtain ⟨j, hj⟩ := List.mem_iff_getElem?.1 hb
    rw [List.getElem?_drop] at hj
    exact hd _ b hj (by omega)
  · have := congrArg List.length q
    rw [List.length_take] at this
    simp at this; omega
  · by_cases h5 : 4 < t.length
    · right
      rw [List.head?_eq_getElem?, List.getElem?_take_of_lt (by omega)]
      exact fun q => hh ⟨h5, q⟩
    · obtain ⟨b, hb⟩ : ∃ b, t.take (t.length - 3) = [b] := List.length_eq_one_iff.1 (by rw [List.length_take]; omega)
      rw [hb]
      by_cases hb2 : b = 48
      · left; rw [hb2]
      · right; simpa using hb2
theorem parts_form {l u c : List UInt8} (h : PartsR l u c) : FormR l := by
  have hu := headOk_iff.1 h.head
  have hul : 0 < u.length := List.length_pos_iff.2 hu.1
  have h2 := h.two
  have hl : (u ++ 46 :: c).length = u.length + 3 := by simp [h2]
  refine ⟨⟨?_, ?_, ?_, h.zero⟩, ?_⟩
  · rw [h.tl, hl]; omega
  · rw [h.tl, hl, show u.length + 3 - 3 = u.length by omega, List.getElem?_append_right (Nat.le_refl _), Nat.sub_self]; rfl
  · rw [h.tl, hl]
    rintro ⟨h5, h0⟩
    rw [List.getElem?_append_left hul] at h0
    rcases hu.2 with q | q
    · rw [q] at h5; simp at h5
    · rw [List.head?_eq_getElem?] at q; exact q h0
  · rw [h.tl, hl]
    intro j b hj hne
    by_cases hju : j < u.length
    · rw [List.getElem?_append_left hju] at hj
      exact h.du b (List.mem_of_getElem? hj)
    · obtain ⟨k, hk⟩ : ∃ k, j - u.length = k + 1 := ⟨j - u.length - 1, by omega⟩
      rw [List.getElem?_append_right (by omega), hk, List.getElem?_cons_succ] at hj
      exact h.dc b (List.mem_of_getElem? hj)
theorem two_list {c : List UInt8} (h : c.length = 2) : ∃ a b, c = [a, b] := by
  match c, h with
  | [a, b], _ => exact ⟨a, b, rfl⟩
theorem whole_dig {u : List UInt8} (h : ∀ b ∈ u, isDig b = true) : wholeS u = (numD u, headOk u) := by rw [wholeS, if_pos (all_dig.2 h)]
theorem val_app (u v : List UInt8) (n : Int) : (u ++ v).foldl vst n = v.foldl vst (u.foldl vst n) := List.foldl_append
/-- What the code reads of the parts. -/
theorem ofS_parts {l u : List UInt8} {c1 c2 : UInt8} (h : PartsR l u [c1, c2]) :
    ofS l = if 1000000000000 < 100 * valD u + (10 * ((c1.toNat : Int) - 48) + ((c2.toNat : Int) - 48)) then (0, 14)
      else if l ≠ tlR l then (-(100 * valD u + (10 * ((c1.toNat : Int) - 48) + ((c2.toNat : Int) - 48))), 0) else (100 * valD u + (10 * ((c1.toNat : Int) - 48) + ((c2.toNat : Int) - 48)), 0) := by
  have hd1 := dig_le (h.dc c1 (by simp))
  have hd2 := dig_le (h.dc c2 (by simp))
  have hV0 : 0 ≤ valD u := vst_ge u 0 (by decide) h.du
  have hw2 : ∀ b ∈ (49 :: [c1, c2] : List UInt8), isDig b = true := fun b hb => by
    rcases List.mem_cons.1 hb with rfl | hb
    · decide
    · exact h.dc b hb
  have hC : numD (49 :: [c1, c2]) = 100 + (10 * ((c1.toNat : Int) - 48) + ((c2.toNat : Int) - 48)) := by
    rw [numD_min hw2]
    have e : valD (49 :: [c1, c2]) = 100 + (10 * ((c1.toNat : Int) - 48) + ((c2.toNat : Int) - 48)) := by
      simp only [valD, List.foldl_cons, List.foldl_nil, vst]
      have : (((49 : UInt8).toNat : Nat) : Int) = 49 := rfl
      omega
    rw [e]; omega
  have hH : headOk (49 :: [c1, c2]) = true := headOk_iff.2 ⟨by simp, Or.inr (by simp)⟩
  obtain ⟨cc, hcc⟩ : ∃ cc, 10 * ((c1.toNat : Int) - 48) + ((c2.toNat : Int) - 48) = cc := ⟨_, rfl⟩
  rw [hcc] at hC ⊢
  have hcc0 : 0 ≤ cc ∧ cc ≤ 99 := by omega
  have hA := numD_min h.du
  obtain ⟨V, hV⟩ : ∃ V, valD u = V := ⟨_, rfl⟩
  rw [hV] at hA hV0 ⊢
  have hM : minN (numD u) (numD (49 :: [c1, c2])) = min (100 * V + cc) 1000000000001 := by
    rw [hA, hC, minN]; omega
  have hp : partsS l = (decide (l ≠ tlR l), u, [c1, c2], true) := by rw [partsS, has_tl, trim_tl, h.tl, cutS_app _ _ _ h.not46]
  -- no text is less than nought and nought
  have hzero : l ≠ tlR l → 100 * V + cc ≠ 0 := fun hne hz => by
    have hVz : V = 0 := by omega
    have hcz : cc = 0 := by omega
    have e1 : c1 = 48 := u8_k (k := 48) (by omega) rfl
    have e2 : c2 = 48 := u8_k (k := 48) (by omega) rfl
    have hu := headOk_iff.1 h.head
    have eu : u = [48] := by
      rcases hu.2 with q | q
      · exact q
      · exfalso
        cases u with
        | nil => exact hu.1 rfl
        | cons x u =>
          have hx := dig_le (h.du x (by simp))
          have hx2 : x ≠ 48 := fun e => q (by rw [e]; rfl)
          have hx3 : ¬ (x.toNat : Int) = 48 := fun e => hx2 (u8_k (k := 48) e rfl)
          have hge := vst_ge u (vst 0 x) (by unfold vst; omega) fun b hb => h.du b (by simp [hb])
          have : valD (x :: u) = u.foldl vst (vst 0 x) := rfl
          unfold vst at hge this
          omega
    refine h.zero ?_
    have htl := h.tl
    rw [eu, e1, e2] at htl
    have hl : l = 45 :: tlR l := by
      unfold tlR at hne ⊢
      cases l with
      | nil => simp at hne
      | cons x l =>
        by_cases hx : x = 45
        · subst hx; simp
        · simp [hx] at hne
    rw [hl, htl]; rfl
  rw [ofS, hp, ofP]
  simp only [whole_dig h.du, whole_dig hw2, h.head, hH, hM]
  by_cases hbig : 1000000000000 < 100 * V + cc
  · rw [if_pos hbig, if_neg (by simp; intro _; omega), if_pos (by omega)]
  · rw [if_neg hbig, if_neg (by simp; intro q; have := hzero q; omega), if_neg (by omega)]
    by_cases hn : l ≠ tlR l
    · rw [if_pos (by simpa using hn), if_pos hn]; congr 1; omega
    · rw [if_neg (by simpa using hn), if_neg hn]; congr 1; omega
theorem ofR_parts {l u : List UInt8} {c1 c2 : UInt8} (h : PartsR l u [c1, c2]) :
    ofR l = if 1000000000000 < 100 * valD u + (10 * ((c1.toNat : Int) - 48) + ((c2.toNat : Int) - 48)) then (0, 14)
      else if l ≠ tlR l then (-(100 * valD u + (10 * ((c1.toNat : Int) - 48) + ((c2.toNat : Int) - 48))), 0) else (100 * valD u + (10 * ((c1.toNat : Int) - 48) + ((c2.toNat : Int) - 48)), 0) := by
  have hV0 : 0 ≤ valD u := vst_ge u 0 (by decide) h.du
  have hr := relN u 0 0 (by decide) ⟨fun _ => rfl, fun q => q⟩ h.du
  have e1 : numR (tlR l) = [c1, c2].foldl stepR (stepR (u.foldl stepR 0) 46) := by rw [h.tl, numR, List.foldl_append]; rfl
  have e2 : stepR (u.foldl stepR 0) 46 = u.foldl stepR 0 := by rw [stepR, if_neg (fun q => q.1 rfl)]
  have hr2 := relN [c1, c2] _ _ hV0 hr h.dc
  rw [← e2, ← e1] at hr2
  have e3 : [c1, c2].foldl vst (valD u) = 100 * valD u + (10 * ((c1.toNat : Int) - 48) + ((c2.toNat : Int) - 48)) := by
    show vst (vst (valD u) c1) c2 = _
    unfold vst; omega
  rw [e3] at hr2
  obtain ⟨W, hW⟩ : ∃ W, 100 * valD u + (10 * ((c1.toNat : Int) - 48) + ((c2.toNat : Int) - 48)) = W := ⟨_, rfl⟩
  rw [hW] at hr2 ⊢
  rw [ofR]
  by_cases hbig : 1000000000000 < W
  · rw [if_pos hbig, if_pos (hr2.2 hbig)]
  · rw [if_neg hbig, if_neg (by have := hr2.1 (by omega); omega), hr2.1 (by omega)]
theorem of_form {l : List UInt8} (h : FormR l) : ofS l = ofR l := by
  obtain ⟨u, c, hp⟩ := form_parts h
  obtain ⟨a, b, rfl⟩ := two_list hp.two
  rw [ofS_parts hp, ofR_parts hp]
theorem of_noform {l : List UInt8} (h : ¬ FormR l) : ofS l = (0, 4) := by
  rw [ofS, ofP]
  split
  · rfl
  · rename_i hno
    exfalso
    obtain ⟨u, c, p, hc⟩ : ∃ u c p, cutS (Lib.trimPrefix l [45]) 46 = (u, c, p) := ⟨_, _, _, rfl⟩
    simp only [partsS, hc, Bool.not_eq_true, Bool.or_eq_false_iff, Bool.not_eq_false', decide_eq_false_iff_not, Decidable.not_not] at hno
    obtain ⟨⟨⟨⟨hp, hu⟩, hcw⟩, h2⟩, hz⟩ := hno
    subst hp
    have htl := cutS_yes hc
    rw [trim_tl] at htl
    have hdu : ∀ b ∈ u, isDig b = true := by
      by_cases q : u.all isDig = true
      · exact all_dig.1 q
      · rw [wholeS, if_neg q] at hu; cases hu
    have hdc : ∀ b ∈ (49 :: c : List UInt8), isDig b = true := by
      by_cases q : (49 :: c : List UInt8).all isDig = true
      · exact all_dig.1 q
      · rw [wholeS, if_neg q] at hcw; cases hcw
    rw [whole_dig hdu] at hu
    refine h (parts_form ⟨htl, hdu, fun b hb => hdc b (by simp [hb]), h2, hu, fun e => ?_⟩)
    subst e
    have hcv : cutS (Lib.trimPrefix [45, 48, 46, 48, 48] [45]) 46 = ([48], [48, 48], true) := by decide +kernel
    rw [hcv] at hc
    obtain ⟨rfl, hc2⟩ := Prod.mk.inj hc
    obtain ⟨rfl, _⟩ := Prod.mk.inj hc2
    exact absurd hz (by decide +kernel)
end Go.Proofs.Ytknjiohhlemeiaa
