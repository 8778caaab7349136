/- Acts upon pages, plainly. -/
import Derived.Test.YtjdcopfnhkfimaaPageQ
namespace Go.Proofs.Ytjdcopfnhkfimaa
open Go Go.RowKit Coup

/-! ### What is done stays good -/
theorem Good.withV {V : View} (h : Good V) {i : Nat} {r : List UInt8} (hi : i ≤ V.slots.length) (hr : r.length ≤ 400) (hz : sizeV (withV V i r) ≤ 512) : Good (withV V i r) := by
  refine ⟨h.kind, h.next, hz, fun r' hm => ?_, ?_⟩
  · show r'.length ≤ 400
    have hm' : some r' ∈ setS V.slots i r := hm
    unfold setS at hm'
    split at hm'
    · rcases List.mem_append.1 hm' with e | e
      · exact h.cell r' e
      · simp at e; rw [e]; exact hr
    · rcases List.mem_or_eq_of_mem_set hm' with e | e
      · exact h.cell r' e
      · cases e; exact hr
  · show (setS V.slots i r).getLast? ≠ some none
    unfold setS
    split
    · simp
    · rename_i hne
      rw [List.getLast?_eq_getElem?, List.length_set, List.getElem?_set]
      have hl := h.last
      rw [List.getLast?_eq_getElem?] at hl
      split
      · split
        · simp
        · simp
      · exact hl
theorem Good.wtV {V : View} (h : Good V) (i : Nat) : Good (wtV V i) := by
  obtain ⟨k, h1, h2, h3, h4⟩ := trimS_pre (V.slots.set i none)
  refine ⟨h.kind, h.next, Nat.le_trans (wtV_size V i) h.size, fun r hm => ?_, ?_⟩
  · have hm' : some r ∈ trimS (V.slots.set i none) := hm
    rw [h2] at hm'
    rcases List.mem_or_eq_of_mem_set (List.mem_of_mem_take hm') with e | e
    · exact h.cell r e
    · cases e
  · show (trimS (V.slots.set i none)).getLast? ≠ some none
    rw [h2]; exact h3
theorem Good.link {V : View} (h : Good V) {n : Nat} (hn : n < 2147483648) : Good { V with next := n } := ⟨h.kind, hn, h.size, h.cell, h.last⟩
theorem good_new {k : Nat} (h : k ≤ 4) : Good ⟨k, 0, []⟩ := ⟨h, by show 0 < 2147483648; omega, by simp [sizeV, lenS], fun r hm => by simp at hm, by simp⟩
/-- An act: 1 a record is laid, 2 put, 3 taken out, 4 the next one. -/
structure ActT where
  kind : Int
  slot : Int
  next : Int
  b : List UInt8
def actV (V : View) (a : ActT) : View :=
  if a.kind = 1 then (if layE V a.b = 0 then withV V (freeV V.slots) a.b else V)
  else if a.kind = 2 then (if putE V a.slot a.b = 0 then withV V a.slot.toNat a.b else V)
  else if a.kind = 3 then (if hasV V.slots a.slot then wtV V a.slot.toNat else V)
  else if a.kind = 4 then (if 0 ≤ a.next ∧ a.next < 2147483648 then linkV V a.next else V)
  else V
def no1 (a : ActT) (no : Nat) : Nat := if a.kind ≤ 2 ∧ 400 < a.b.length then 3 else no
def no2 (a : ActT) (no : Nat) (W : View) : Nat := if no1 a no = 0 ∧ 512 < sizeV W then 8 else no1 a no
/-- What the law knows behind an act, ahead of its looks. -/
structure Post (V : View) (a : ActT) (e no : Nat) (slot : Int) (P : List UInt8) (W : View) (k : Int) : Prop where
  e_ : e = no2 a no W
  bad : no2 a no W ≠ 0 → P = zeroP ∧ slot = 0 ∧ actV V a = V
  ok : no2 a no W = 0 → P = bytesV W ∧ (a.kind = 1 → slot = (freeV V.slots : Nat)) ∧ k = (W.next : Int) ∧ actV V a = W ∧ Good W
  size : sizeV W ≤ 100000
  len : (bv P).length = 512
  kind : W.kind = V.kind
theorem no1_12 {a : ActT} {no : Nat} (hk : a.kind ≤ 2) : no1 a no = if 400 < a.b.length then 3 else no := by
  unfold no1
  by_cases h : 400 < a.b.length
  · rw [if_pos ⟨hk, h⟩, if_pos h]
  · rw [if_neg (fun h1 => h h1.2), if_neg h]
theorem no1_34 {a : ActT} {no : Nat} (hk : 2 < a.kind) : no1 a no = no := by unfold no1; rw [if_neg (by omega)]
theorem layP_len (V : View) (r : List UInt8) : (bv (layP V r)).length = 512 := by
  unfold layP
  split
  · rename_i h
    rw [bv_length]
    refine bytesV_len _ ?_
    unfold layE at h
    split at h
    · cases h
    · unfold withE at h; split at h
      · cases h
      · omega
  · exact zeroP_len
theorem post1 {V : View} (hV : Good V) {a : ActT} (hk : a.kind = 1) (hb : a.b.length ≤ 700) : Post V a (layE V a.b) 0 (if layE V a.b = 0 then freeV V.slots else 0 : Nat) (layP V a.b) (withV V (freeV V.slots) a.b) (V.next : Int) := by
  have hz := setS_size V (freeV V.slots) a.b
  have hVs := hV.size
  have e1 : layE V a.b = no2 a 0 (withV V (freeV V.slots) a.b) := by
    unfold layE no2 withE
    rw [no1_12 (by omega)]
    by_cases h : 400 < a.b.length
    · simp only [if_pos h]; rw [if_neg (by omega)]
    · simp only [if_neg h]
      by_cases h2 : 512 < sizeV (withV V (freeV V.slots) a.b)
      · rw [if_pos h2, if_pos ⟨trivial, h2⟩]
      · rw [if_neg h2, if_neg (by omega)]
  refine ⟨e1, fun h => ?_, fun h => ?_, by omega, layP_len V a.b, rfl⟩
  · rw [← e1] at h
    refine ⟨by rw [layP, if_neg h], by rw [if_neg h]; rfl, by rw [actV, if_pos hk, if_neg h]⟩
  · rw [← e1] at h
    refine ⟨by rw [layP, if_pos h], fun _ => by rw [if_pos h], rfl, by rw [actV, if_pos hk, if_pos h], ?_⟩
    unfold layE at h
    split at h
    · cases h
    · unfold withE at h; split at h
      · cases h
      · exact hV.withV (freeV_le _) (by omega) (by omega)
theorem putP_len (V : View) (k : Int) (r : List UInt8) : (bv (putP V k r)).length = 512 := by
  unfold putP
  split
  · rename_i h
    rw [bv_length]
    refine bytesV_len _ ?_
    unfold putE at h
    split at h
    · cases h
    · split at h
      · unfold withE at h; split at h
        · cases h
        · omega
      · cases h
  · exact zeroP_len
theorem post2 {V : View} (hV : Good V) {a : ActT} (hk : a.kind = 2) (hb : a.b.length ≤ 700) : Post V a (putE V a.slot a.b) (if hasV V.slots a.slot then 0 else 6) 0 (putP V a.slot a.b) (if hasV V.slots a.slot then withV V a.slot.toNat a.b else V) (V.next : Int) := by
  have hz := setS_size V a.slot.toNat a.b
  have hVs := hV.size
  have e1 : putE V a.slot a.b = no2 a (if hasV V.slots a.slot then 0 else 6) (if hasV V.slots a.slot then withV V a.slot.toNat a.b else V) := by
    unfold putE no2 withE
    rw [no1_12 (by omega)]
    by_cases h : 400 < a.b.length
    · simp only [if_pos h]; rw [if_neg (by omega)]
    · simp only [if_neg h]
      cases hh : hasV V.slots a.slot with
      | true =>
        simp only [if_true]
        by_cases h2 : 512 < sizeV (withV V a.slot.toNat a.b)
        · rw [if_pos h2, if_pos ⟨trivial, h2⟩]
        · rw [if_neg h2, if_neg (by omega)]
      | false => simp
  refine ⟨e1, fun h => ?_, fun h => ?_, by split <;> omega, putP_len _ _ _, by split <;> rfl⟩
  · rw [← e1] at h
    refine ⟨by rw [putP, if_neg h], rfl, by rw [actV, if_neg (by omega), if_pos hk, if_neg h]⟩
  · rw [← e1] at h
    have hh : hasV V.slots a.slot = true := by
      unfold putE at h
      split at h
      · cases h
      · split at h
        · assumption
        · cases h
    rw [hh]
    simp only [if_true]
    refine ⟨by rw [putP, if_pos h], fun h1 => by omega, rfl, by rw [actV, if_neg (by omega), if_pos hk, if_pos h], ?_⟩
    obtain ⟨i, r, hi, hs⟩ := hasV_some hh
    have hil := (List.getElem?_eq_some_iff.1 hs).1
    unfold putE at h
    split at h
    · cases h
    · unfold withE at h; split at h
      · cases h
      · exact hV.withV (by omega) (by omega) (by omega)
theorem takeP_len {V : View} (hV : Good V) (k : Int) : (bv (takeP V k)).length = 512 := by
  unfold takeP
  split
  · rw [bv_length]; exact bytesV_len _ (hV.wtV _).size
  · exact zeroP_len
theorem post3 {V : View} (hV : Good V) {a : ActT} (hk : a.kind = 3) : Post V a (if hasV V.slots a.slot then 0 else 6) (if hasV V.slots a.slot then 0 else 6) 0 (takeP V a.slot) (if hasV V.slots a.slot then wtV V a.slot.toNat else V) (V.next : Int) := by
  have hVs := hV.size
  have hw := wtV_size V a.slot.toNat
  have e1 : (if hasV V.slots a.slot then 0 else 6) = no2 a (if hasV V.slots a.slot then 0 else 6) (if hasV V.slots a.slot then wtV V a.slot.toNat else V) := by
    unfold no2
    rw [no1_34 (by omega)]
    cases hh : hasV V.slots a.slot with
    | true => simp only [if_true]; rw [if_neg (by omega)]
    | false => simp
  refine ⟨e1, fun h => ?_, fun h => ?_, by split <;> omega, takeP_len hV _, by split <;> rfl⟩
  · rw [← e1] at h
    have hh : hasV V.slots a.slot = false := by cases hh : hasV V.slots a.slot with
      | true => rw [hh] at h; simp at h
      | false => rfl
    refine ⟨by rw [takeP, hh]; rfl, rfl, by rw [actV, if_neg (by omega), if_neg (by omega), if_pos hk, hh]; rfl⟩
  · rw [← e1] at h
    have hh : hasV V.slots a.slot = true := by cases hh : hasV V.slots a.slot with
      | true => rfl
      | false => rw [hh] at h; simp at h
    rw [hh]
    simp only [if_true]
    refine ⟨by rw [takeP, hh]; rfl, fun h1 => by omega, rfl, by rw [actV, if_neg (by omega), if_neg (by omega), if_pos hk, hh]; rfl, hV.wtV _⟩
theorem linkP_len {V : View} (hV : Good V) (k : Int) : (bv (linkP V k)).length = 512 := by
  unfold linkP
  split
  · rw [bv_length]; exact bytesV_len _ hV.size
  · exact zeroP_len
theorem post4 {V : View} (hV : Good V) {a : ActT} (hk : a.kind = 4) : Post V a (if 0 ≤ a.next ∧ a.next < 2147483648 then 0 else 2) (if 0 ≤ a.next ∧ a.next < 2147483648 then 0 else 2) 0 (linkP V a.next) (if 0 ≤ a.next ∧ a.next < 2147483648 then linkV V a.next else V) a.next := by
  have hVs := hV.size
  have hls : sizeV (linkV V a.next) = sizeV V := rfl
  by_cases h : 0 ≤ a.next ∧ a.next < 2147483648
  · simp only [if_pos h]
    have e1 : 0 = no2 a 0 (linkV V a.next) := by
      unfold no2
      rw [no1_34 (by omega), if_neg (by omega)]
    have hG : Good (linkV V a.next) := hV.link (by omega)
    refine ⟨e1, fun h1 => absurd e1.symm h1, fun _ => ⟨by rw [linkP, if_pos h], fun h1 => by omega, ?_, by rw [actV, if_neg (by omega), if_neg (by omega), if_neg (by omega), if_pos hk, if_pos h], hG⟩, by omega, linkP_len hV _, rfl⟩
    show a.next = (a.next.toNat : Int)
    omega
  · simp only [if_neg h]
    have e1 : 2 = no2 a 2 V := by
      unfold no2
      rw [no1_34 (by omega), if_neg (by omega)]
    refine ⟨e1, fun _ => ⟨by rw [linkP, if_neg h], rfl, by rw [actV, if_neg (by omega), if_neg (by omega), if_neg (by omega), if_pos hk, if_neg h]⟩, fun h1 => by omega, by omega, linkP_len hV _, rfl⟩
theorem actV_good {V : View} (hV : Good V) (a : ActT) (hb : a.b.length ≤ 700) : Good (actV V a) := by
  have key : ∀ {e no slot P W k}, Post V a e no slot P W k → Good (actV V a) := fun {e no slot P W k} h => by
    by_cases h0 : no2 a no W = 0
    · have := h.ok h0; rw [this.2.2.2.1]; exact this.2.2.2.2
    · rw [(h.bad h0).2.2]; exact hV
  by_cases h1 : a.kind = 1
  · exact key (post1 hV h1 hb)
  by_cases h2 : a.kind = 2
  · exact key (post2 hV h2 hb)
  by_cases h3 : a.kind = 3
  · exact key (post3 hV h3)
  by_cases h4 : a.kind = 4
  · exact key (post4 hV h4)
  rw [actV, if_neg h1, if_neg h2, if_neg h3, if_neg h4]; exact hV
end Go.Proofs.Ytjdcopfnhkfimaa
