/- The law StatusLetters: its walk, whole. -/
import Derived.Test.YteamiconagjpcaaR
namespace Go.Proofs.Yteamiconagjpcaa
open Go Go.RowKit Coup

theorem bytes_of_list {a b : ByteArray} (h : (a.toList == b.toList) = true) : a = b := by
  have h' : a.toList = b.toList := by simpa using h
  rw [Lib.toList_data, Lib.toList_data] at h'
  obtain ⟨⟨l⟩⟩ := a
  obtain ⟨⟨m⟩⟩ := b
  simp at h'
  rw [h']
theorem letter_or (t : ByteArray) : noLetter t ∨ ∃ j, mayB j = true ∧ t = letterOf j := by
  by_cases h : ∃ j, mayB j = true ∧ ((letterOf j).toList == t.toList) = true
  · obtain ⟨j, hj, he⟩ := h
    exact .inr ⟨j, hj, (bytes_of_list he).symm⟩
  · left
    intro k hk
    rcases he : ((letterOf k).toList == t.toList) with _ | _
    · rfl
    · exact absurd ⟨k, hk, he⟩ h
theorem letter_ne {k j : Int} (hk : mayB k = true) (hj : mayB j = true) (h : k ≠ j) : ((letterOf k).toList == (letterOf j).toList) = false := by
  rcases nine hk with rfl | rfl | rfl | rfl | rfl | rfl | rfl | rfl | rfl <;>
  rcases nine hj with rfl | rfl | rfl | rfl | rfl | rfl | rfl | rfl | rfl <;> first | exact absurd rfl h | decide +kernel
theorem noLetter_empty : noLetter ⟨#[]⟩ := by
  intro k hk
  rcases nine hk with rfl | rfl | rfl | rfl | rfl | rfl | rfl | rfl | rfl <;> decide +kernel

theorem int_upto {P : Int → Prop} {k : Int} (h : ∀ j, 1 ≤ j → j < k → P j) (hk : P k) : ∀ j, 1 ≤ j → j < k + 1 → P j := by
  intro j h1 h2
  by_cases hj : j < k
  · exact h j h1 hj
  · obtain rfl : j = k := by omega
    exact hk
/-- What Of answers of any text. -/
def OfIs (t : ByteArray) (y f : Int) : Prop := (noLetter t ∧ y = 0 ∧ f = 2) ∨ (mayB y = true ∧ t = letterOf y ∧ f = 0)
theorem of23 (t : ByteArray) (y f m : Int) (w : World) (hm : w.cell? ⟨0, 0, none⟩ = some (.int .i64 m)) (h : OfIs t y f) : Calls Try.prog 23 #[.string t] w fun e w' => e = .returned (.tuple #[.int .i64 y, .int .i64 f]) ∧ w = w' := by
  rcases h with ⟨h, rfl, rfl⟩ | ⟨h, rfl, rfl⟩
  · exact of_no23 t m w hm h
  · exact of_yes23 y w h

theorem law7_long (s : Int) (t : ByteArray) (w : World) (h : 100 < t.size) : Calls Try.prog 7 #[.int .i64 s, .string t] w fun e w' => e = .returned (.bool true) ∧ Below w.heap.size w w' := by
  have hx : (100 : Int) < t.size := by omega
  go_enter Try.func7, Try.ntmps7
  go_wp2_with (first | (go_at_call 9; refine (known9 _).mono ?_; rintro e w3 ⟨rfl, hb3⟩))
  go_ret
  exact ⟨rfl, hb3⟩

set_option maxHeartbeats 2000000 in
theorem law7_main (s : Int) (t : ByteArray) (y f m : Int) (w : World) (hsz : t.size ≤ 100) (hm : w.cell? ⟨0, 0, none⟩ = some (.int .i64 m)) (h0 : 0 < w.heap.size) (ho : OfIs t y f) :
    Calls Try.prog 7 #[.int .i64 s, .string t] w fun e w' => e = .returned (.bool true) ∧ Below w.heap.size w w' := by
  have hx : (t.size : Int) ≤ 100 := by omega
  have HMC := Lib.hid hm; clear hm
  have HO := Lib.hid ho; clear ho
  have hmain : ∀ (b : Bool) (u : ByteArray) (x g : Int), mayB s = b → Hid (∀ w : World, Calls Try.prog 22 #[.int .i64 s] w fun e w' => e = .returned (.string u) ∧ w = w') → Hid (∀ w : World, Calls Try.prog 24 #[.int .i64 s] w fun e w' => e = .returned (.string u) ∧ Below w.heap.size w w') →
      Hid (OfIs u x g) → ((b = true ∧ x = s ∧ g = 0) ∨ (b = false ∧ x = 0 ∧ g = 2)) → Calls Try.prog 7 #[.int .i64 s, .string t] w fun e w' => e = .returned (.bool true) ∧ Below w.heap.size w w' := by
    intro b u x g hb hl hr hou hcase
    have HB := Lib.hid hb; clear hb
    rcases hcase with ⟨rfl, rfl, rfl⟩ | ⟨rfl, rfl, rfl⟩
    all_goals
      go_enter Try.func7, Try.ntmps7
      go_wp2_with (first
        | (go_at_call 8; refine (may8 _ _).mono ?_; rintro e w' ⟨rfl, rfl⟩; rw [HB.out])
        | (go_at_call 22; refine (hl.out _).mono ?_; rintro e w' ⟨rfl, rfl⟩)
        | (go_at_call_of 23 (Value.string u); refine (of23 u _ _ m _ HMC.out hou.out).mono ?_; rintro e w' ⟨rfl, rfl⟩)
        | (go_at_call 24; refine (hr.out _).mono ?_; rintro e w1 ⟨rfl, hb1⟩; have hm1 := (hb1.cell (p := ⟨0, 0, none⟩) h0).trans HMC.out; have HM1 := Lib.hid hm1; clear hm1)
        | (go_at_call_of 23 (Value.string t); refine (of23 t _ _ m _ HM1.out HO.out).mono ?_; rintro e w' ⟨rfl, rfl⟩))
      go_loopw [10] (fun i wr => ∃ k : Int, 1 ≤ k ∧ k ≤ 10 ∧ i = .int .i64 k ∧ Hid (∀ j : Int, 1 ≤ j → j < k → ((letterOf j).toList == t.toList) = false) ∧ Below w.heap.size w wr) (fun i _ => (11 - intOf i).toNat)
      case atStart => exact ⟨1, by omega, by omega, rfl, fun j h1 h2 => by omega, hb1⟩
      case round =>
        clear hb1
        obtain ⟨k, hk1, hk, rfl, hpre, hbw⟩ := hrel
        by_cases hlt : k ≤ 9
        · have hmk : mayB k = true := by unfold mayB; rw [Bool.and_eq_true]; constructor <;> (rw [decide_eq_true_eq]; omega)
          have HMK := Lib.hid hmk; clear hmk
          rcases hq : ((letterOf k).toList == t.toList) with _ | _
          · have HQ := Lib.hid hq; clear hq
            go_wp2_with (first
              | (go_at_call 24; refine (letter_yes24 _ _ HMK.out).mono ?_; rintro e w2 ⟨rfl, hb2⟩; have hq := HQ.out))
            go_roundw
            case rel => exact ⟨k + 1, by omega, by omega, by go_num, int_upto hpre.out HQ.out, hbw.trans (hb2.mono hbw.size)⟩
            case measure => simp [intOf]; omega
          · have hyk : y = k ∧ f = 0 := by
              rcases HO.out with ⟨hn, _, _⟩ | ⟨hy, ht, hf⟩
              · rw [hn k HMK.out] at hq; cases hq
              · refine ⟨?_, hf⟩
                by_cases he : k = y
                · exact he.symm
                · rw [ht, letter_ne HMK.out hy he] at hq; cases hq
            obtain ⟨rfl, rfl⟩ := hyk
            have HQ := Lib.hid hq; clear hq
            go_wp2_with (first
              | (go_at_call 24; refine (letter_yes24 _ _ HMK.out).mono ?_; rintro e w2 ⟨rfl, hb2⟩; have hq := HQ.out)
              | (go_at_call 9; refine (known9 _).mono ?_; rintro e w3 ⟨rfl, hb3⟩))
            go_ret
            have hB := hbw.trans (hb2.mono hbw.size)
            exact ⟨rfl, hB.trans (hb3.mono hB.size)⟩
        · have hyf : y = 0 ∧ f = 2 := by
            rcases HO.out with ⟨_, h1, h2⟩ | ⟨hy, ht, _⟩
            · exact ⟨h1, h2⟩
            · exfalso
              have h9 : 1 ≤ y ∧ y ≤ 9 := by simpa [mayB] using hy
              have := hpre.out y h9.1 (by omega)
              rw [ht] at this
              simp at this
          obtain ⟨rfl, rfl⟩ := hyf
          go_wp2_with (first
            | (go_at_call 9; refine (known9 _).mono ?_; rintro e w3 ⟨rfl, hb3⟩))
          go_ret
          exact ⟨rfl, hbw.trans (hb3.mono hbw.size)⟩
  rcases hm : mayB s with _ | _
  · exact hmain false ⟨#[]⟩ 0 2 hm (fun w => letter_no22 s w hm) (fun w => (letter_no24 s w hm).mono fun e w' ⟨h1, h2⟩ => ⟨h1, by subst h2; exact Below.refl _ _⟩) (.inl ⟨noLetter_empty, rfl, rfl⟩) (.inr ⟨rfl, rfl, rfl⟩)
  · exact hmain true (letterOf s) s 0 hm (fun w => letter_yes22 s w hm) (fun w => letter_yes24 s w hm) (.inr ⟨hm, rfl, rfl⟩) (.inl ⟨rfl, rfl, rfl⟩)

theorem law7 (s : Int) (t : ByteArray) (m : Int) (w : World) (hm : w.cell? ⟨0, 0, none⟩ = some (.int .i64 m)) : Calls Try.prog 7 #[.int .i64 s, .string t] w fun e w' => e = .returned (.bool true) ∧ Below w.heap.size w w' := by
  by_cases hz : 100 < t.size
  · exact law7_long s t w hz
  · have h0 : 0 < w.heap.size := World.block_lt_of_cell? _ _ hm
    rcases letter_or t with h | ⟨j, hj, ht⟩
    · exact law7_main s t 0 2 m w (by omega) hm h0 (.inl ⟨h, rfl, rfl⟩)
    · exact law7_main s t j 0 m w (by omega) hm h0 (.inr ⟨hj, ht, rfl⟩)
end Go.Proofs.Yteamiconagjpcaa
