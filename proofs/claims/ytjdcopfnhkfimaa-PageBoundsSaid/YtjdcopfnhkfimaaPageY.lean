/- The stage's theorem: a page that has the same, made anew, is the same bytes. -/
import Derived.Test.YtjdcopfnhkfimaaPageX
namespace Go.Proofs.Ytjdcopfnhkfimaa
open Go Go.RowKit Coup

/-- Empty records where there are none. -/
def fillS (S : List (Option (List UInt8))) : List (Option (List UInt8)) := S.map fun s => some (bod s)
theorem fillS_len (S : List (Option (List UInt8))) : (fillS S).length = S.length := by simp [fillS]
theorem fillS_lenS : ∀ S, lenS (fillS S) = lenS S
  | [] => rfl
  | s :: S => by
    have := fillS_lenS S
    unfold fillS at this ⊢
    simp only [List.map_cons, lenS, this]
    rfl
theorem fillS_free (S : List (Option (List UInt8))) : freeV (fillS S) = S.length := by
  have h : freeV (fillS S) = (fillS S).length := List.findIdx_eq_length.2 fun x hx => by
    obtain ⟨s, _, rfl⟩ := List.mem_map.1 hx
    rfl
  rw [h, fillS_len]
theorem fillS_some {S : List (Option (List UInt8))} {r : List UInt8} (h : some r ∈ fillS S) : ∃ s ∈ S, r = bod s := by
  obtain ⟨s, hs, e⟩ := List.mem_map.1 h
  exact ⟨s, hs, by injection e with e; exact e.symm⟩
theorem bod_le {V : View} (hV : Good V) {s : Option (List UInt8)} (h : s ∈ V.slots) : (bod s).length ≤ 400 := by
  cases s with
  | none => simp [bod]
  | some r => exact hV.cell r h
def onV (V : View) (i : Nat) : View := ⟨V.kind, 0, fillS (V.slots.take i)⟩
def miV (V : View) (i : Nat) : View := ⟨V.kind, 0, V.slots.take i ++ fillS (V.slots.drop i)⟩
theorem last_app {A B : List (Option (List UInt8))} (h : B ≠ []) : (A ++ fillS B).getLast? ≠ some none := by
  rw [List.getLast?_append]
  obtain ⟨T, s, rfl⟩ := (List.eq_nil_or_concat B).resolve_left h
  simp [fillS]
theorem onV_good {V : View} (hV : Good V) (i : Nat) : Good (onV V i) := by
  have hz := hV.size
  have hl := lenS_take V.slots i
  refine ⟨hV.kind, by show 0 < 2147483648; omega, ?_, fun r hm => ?_, ?_⟩
  · unfold sizeV at hz ⊢
    show 12 + 4 * (fillS (V.slots.take i)).length + lenS (fillS (V.slots.take i)) ≤ 512
    rw [fillS_len, fillS_lenS, List.length_take]; omega
  · obtain ⟨s, hs, rfl⟩ := fillS_some hm
    exact bod_le hV (List.mem_of_mem_take hs)
  · show (fillS (V.slots.take i)).getLast? ≠ some none
    by_cases h : V.slots.take i = []
    · rw [h]; simp [fillS]
    · exact last_app (A := []) h
theorem miV_good {V : View} (hV : Good V) (i : Nat) : Good (miV V i) := by
  have hz := hV.size
  have hl := lenS_app (V.slots.take i) (V.slots.drop i)
  rw [List.take_append_drop] at hl
  refine ⟨hV.kind, by show 0 < 2147483648; omega, ?_, fun r hm => ?_, ?_⟩
  · unfold sizeV at hz ⊢
    show 12 + 4 * (V.slots.take i ++ fillS (V.slots.drop i)).length + lenS (V.slots.take i ++ fillS (V.slots.drop i)) ≤ 512
    rw [lenS_app, fillS_lenS, List.length_append, fillS_len, List.length_take, List.length_drop]; omega
  · rcases List.mem_append.1 hm with e | e
    · exact hV.cell r (List.mem_of_mem_take e)
    · obtain ⟨s, hs, rfl⟩ := fillS_some e
      exact bod_le hV (List.mem_of_mem_drop hs)
  · show (V.slots.take i ++ fillS (V.slots.drop i)).getLast? ≠ some none
    by_cases h : V.slots.drop i = []
    · rw [h, show fillS [] = [] from rfl, List.append_nil]
      have : V.slots.take i = V.slots := by
        have h2 := List.take_append_drop i V.slots
        rw [h, List.append_nil] at h2; exact h2
      rw [this]; exact hV.last
    · exact last_app h
theorem onV_lay {V : View} (hV : Good V) {i : Nat} {s : Option (List UInt8)} (hs : V.slots[i]? = some s) : layE (onV V i) (bod s) = 0 ∧ freeV (onV V i).slots = i ∧ withV (onV V i) i (bod s) = onV V (i + 1) := by
  have hil := (List.getElem?_eq_some_iff.1 hs).1
  have hf : freeV (onV V i).slots = i := by
    show freeV (fillS (V.slots.take i)) = i
    rw [fillS_free, List.length_take]; omega
  have hw : withV (onV V i) i (bod s) = onV V (i + 1) := by
    unfold withV onV setS
    dsimp only
    rw [if_pos (by rw [fillS_len, List.length_take]; omega), List.take_add_one, hs]
    simp [fillS]
  refine ⟨?_, hf, hw⟩
  have hg := (onV_good hV (i + 1)).size
  have hb := bod_le hV (List.mem_of_getElem? hs)
  rw [layE, if_neg (by omega), hf, withE, hw, if_neg (by omega)]
theorem getR_bod {S : List (Option (List UInt8))} {i : Nat} {s : Option (List UInt8)} (hs : S[i]? = some s) : getR S (i : Int) = bod s ∧ hasV S (i : Int) = s.isSome := by
  cases s with
  | none => refine ⟨?_, hasV_none hs⟩; rw [getR, hasV_none hs]; rfl
  | some r => exact ⟨getR_of hs, hasV_of hs⟩
theorem mi_split {V : View} {i : Nat} {s : Option (List UInt8)} (hs : V.slots[i]? = some s) : V.slots.take i ++ fillS (V.slots.drop i) = V.slots.take i ++ some (bod s) :: fillS (V.slots.drop (i + 1)) := by
  obtain ⟨hil, he⟩ := List.getElem?_eq_some_iff.1 hs
  rw [List.drop_eq_getElem_cons hil, he]
  rfl
theorem take_cons {V : View} {i : Nat} {s : Option (List UInt8)} (hs : V.slots[i]? = some s) (T : List (Option (List UInt8))) : V.slots.take i ++ s :: T = V.slots.take (i + 1) ++ T := by
  rw [List.take_add_one, hs]; simp
theorem mi_some {V : View} {i : Nat} {r : List UInt8} (hs : V.slots[i]? = some (some r)) : miV V i = miV V (i + 1) := by
  unfold miV
  rw [mi_split hs, show bod (some r) = r from rfl, take_cons hs]
theorem mi_has {V : View} {i : Nat} {s : Option (List UInt8)} (hs : V.slots[i]? = some s) : (miV V i).slots[i]? = some (some (bod s)) := by
  have hil := (List.getElem?_eq_some_iff.1 hs).1
  show (V.slots.take i ++ fillS (V.slots.drop i))[i]? = _
  rw [mi_split hs, List.getElem?_append_right (by rw [List.length_take]; omega), List.length_take, Nat.min_eq_left (by omega), Nat.sub_self]; rfl
theorem mi_none {V : View} (hV : Good V) {i : Nat} (hs : V.slots[i]? = some none) : wtV (miV V i) i = miV V (i + 1) := by
  have hil := (List.getElem?_eq_some_iff.1 hs).1
  have hg := (miV_good hV (i + 1)).last
  have e : (miV V i).slots.set i none = (miV V (i + 1)).slots := by
    show (V.slots.take i ++ fillS (V.slots.drop i)).set i none = V.slots.take (i + 1) ++ fillS (V.slots.drop (i + 1))
    rw [mi_split hs, List.set_append_right _ _ (by rw [List.length_take]; omega), List.length_take, Nat.min_eq_left (by omega), Nat.sub_self]
    show V.slots.take i ++ none :: fillS (V.slots.drop (i + 1)) = _
    rw [take_cons hs]
  unfold wtV
  rw [e, trimS_id hg]
  rfl
theorem mi_zero (V : View) : miV V 0 = onV V V.slots.length := by unfold miV onV; rw [List.take_zero, List.nil_append, List.drop_zero, List.take_of_length_le (Nat.le_refl _)]
theorem on_zero (V : View) : onV V 0 = ⟨V.kind, 0, []⟩ := rfl
theorem mi_end {V : View} : ({ miV V V.slots.length with next := V.next } : View) = V := by
  unfold miV
  rw [List.take_of_length_le (Nat.le_refl _), List.drop_of_length_le (Nat.le_refl _), show fillS [] = [] from rfl, List.append_nil]
end Go.Proofs.Ytjdcopfnhkfimaa
