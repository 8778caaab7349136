/- The law StatusLetters: its walk. -/
import Derived.Test.YteamiconagjpcaaQ
import Derived.Test.YteamiconagjpcaaShelf
namespace Go.Proofs.Yteamiconagjpcaa
open Go Go.RowKit Coup

def lettersB : ByteArray := ⟨#[79, 67, 76, 70, 69, 82, 86, 83, 65]⟩
theorem letter_yes22 (s : Int) (w : World) (hm : mayB s = true) : Calls Try.prog 22 #[.int .i64 s] w fun e w' => e = .returned (.string (letterOf s)) ∧ w = w' := by
  rcases nine hm with rfl | rfl | rfl | rfl | rfl | rfl | rfl | rfl | rfl
  all_goals
    have HM := Lib.hid hm; clear hm
    go_enter Try.func22, Try.ntmps22
    go_wp2_with (first | (go_at_call 17; refine (may17 _ _).mono ?_; rintro e w' ⟨rfl, rfl⟩; rw [HM.out]))
    go_ret
    exact ⟨rfl, rfl⟩
theorem letter_no22 (s : Int) (w : World) (hm : mayB s = false) : Calls Try.prog 22 #[.int .i64 s] w fun e w' => e = .returned (.string ⟨#[]⟩) ∧ w = w' := by
  have HM := Lib.hid hm; clear hm
  go_enter Try.func22, Try.ntmps22
  go_wp2_with (first | (go_at_call 17; refine (may17 _ _).mono ?_; rintro e w' ⟨rfl, rfl⟩; rw [HM.out]))
  go_ret
  exact ⟨rfl, rfl⟩

theorem index_at (s : ByteArray) (c : UInt8) (t : ByteArray) (i : Int) (w : World) (ht : t = ⟨#[c]⟩) (hi : Lib.indexByte s.data.toList c = i) : Calls Try.prog 31 #[.string s, .string t] w fun e w' => e = .returned (.int .i64 i) ∧ w = w' := by
  subst ht; subst hi
  exact (Try.strings_Index_one s c w).mono fun _ _ ⟨h, k⟩ => ⟨h, k.symm⟩

theorem of_yes23 (s : Int) (w : World) (hm : mayB s = true) : Calls Try.prog 23 #[.string (letterOf s)] w fun e w' => e = .returned (.tuple #[.int .i64 s, .int .i64 0]) ∧ w = w' := by
  have hc : ∃ c, letterOf s = ⟨#[c]⟩ ∧ Lib.indexByte lettersB.data.toList c = s - 1 := by
    rcases nine hm with rfl | rfl | rfl | rfl | rfl | rfl | rfl | rfl | rfl
    · exact ⟨79, rfl, by decide⟩
    · exact ⟨67, rfl, by decide⟩
    · exact ⟨76, rfl, by decide⟩
    · exact ⟨70, rfl, by decide⟩
    · exact ⟨69, rfl, by decide⟩
    · exact ⟨82, rfl, by decide⟩
    · exact ⟨86, rfl, by decide⟩
    · exact ⟨83, rfl, by decide⟩
    · exact ⟨65, rfl, by decide⟩
  have h : 1 ≤ s ∧ s ≤ 9 := by simpa [mayB] using hm
  obtain ⟨h1, h2⟩ := h
  obtain ⟨c, hc1, hc2⟩ := hc
  have hz : (letterOf s).size = 1 := by rw [hc1]; rfl
  obtain ⟨t, ht⟩ : ∃ t, t = letterOf s := ⟨_, rfl⟩
  rw [← ht] at hc1 hz ⊢
  have HC1 := Lib.hid hc1
  have HC2 := Lib.hid hc2
  have hzi : ((t.size : Int) != 1) = false := by rw [hz]; rfl
  clear hc1 hc2 hm ht hz
  go_enter Try.func23, Try.ntmps23
  go_wp2_with (first | (go_at_call 31; refine (index_at _ c _ (s - 1) _ HC1.out HC2.out).mono ?_; rintro e w' ⟨rfl, rfl⟩))
  go_ret2
  refine ⟨?_, rfl⟩
  have e : s - 1 + 1 = s := by omega
  rw [← e]
  simp

/-- None of the nine letters. -/
def noLetter (t : ByteArray) : Prop := ∀ k : Int, mayB k = true → ((letterOf k).toList == t.toList) = false
theorem idx_none (c : UInt8) (h : noLetter ⟨#[c]⟩) : Lib.indexByte lettersB.data.toList c = -1 := by
  have h1 := h 1 (by decide)
  have h2 := h 2 (by decide)
  have h3 := h 3 (by decide)
  have h4 := h 4 (by decide)
  have h5 := h 5 (by decide)
  have h6 := h 6 (by decide)
  have h7 := h 7 (by decide)
  have h8 := h 8 (by decide)
  have h9 := h 9 (by decide)
  have e : (ByteArray.mk #[c]).toList = [c] := by rw [Lib.toList_data]
  rw [e] at h1 h2 h3 h4 h5 h6 h7 h8 h9
  have g1 : (letterOf 1).toList = [79] := by decide +kernel
  have g2 : (letterOf 2).toList = [67] := by decide +kernel
  have g3 : (letterOf 3).toList = [76] := by decide +kernel
  have g4 : (letterOf 4).toList = [70] := by decide +kernel
  have g5 : (letterOf 5).toList = [69] := by decide +kernel
  have g6 : (letterOf 6).toList = [82] := by decide +kernel
  have g7 : (letterOf 7).toList = [86] := by decide +kernel
  have g8 : (letterOf 8).toList = [83] := by decide +kernel
  have g9 : (letterOf 9).toList = [65] := by decide +kernel
  rw [g1] at h1; rw [g2] at h2; rw [g3] at h3; rw [g4] at h4; rw [g5] at h5; rw [g6] at h6; rw [g7] at h7; rw [g8] at h8; rw [g9] at h9
  simp only [beq_eq_false_iff_ne, ne_eq, List.cons.injEq, and_true] at h1 h2 h3 h4 h5 h6 h7 h8 h9
  simp [Lib.indexByte, lettersB, h1, h2, h3, h4, h5, h6, h7, h8, h9]

theorem of_no23 (t : ByteArray) (m : Int) (w : World) (hm : w.cell? ⟨0, 0, none⟩ = some (.int .i64 m)) (hn : noLetter t) : Calls Try.prog 23 #[.string t] w fun e w' => e = .returned (.tuple #[.int .i64 0, .int .i64 2]) ∧ w = w' := by
  by_cases hz : t.size = 1
  · obtain ⟨⟨l⟩⟩ := t
    match l, hz with
    | [c], _ =>
      have hi := idx_none c hn
      have HI := Lib.hid hi
      clear hi hn hm
      go_enter Try.func23, Try.ntmps23
      go_wp2_with (first | (go_at_call 31; refine (index_at _ c _ (-1) _ rfl HI.out).mono ?_; rintro e w' ⟨rfl, rfl⟩))
      go_ret2
      exact ⟨rfl, rfl⟩
  · have hzi : ((t.size : Int) != 1) = true := by simp; omega
    clear hn
    have HMC := Lib.hid hm; clear hm
    go_enter Try.func23, Try.ntmps23
    go_wp2_with (first | (go_at_call 31; refine (Try.strings_Index _ _ m _ (by decide) HMC.out).mono ?_; rintro e w' ⟨rfl, rfl⟩))
    go_ret2
    exact ⟨rfl, rfl⟩
end Go.Proofs.Yteamiconagjpcaa
