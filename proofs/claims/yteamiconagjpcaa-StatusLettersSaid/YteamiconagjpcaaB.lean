/- Contracts of the reference's functions on letters and rows: each returns what a plain Lean function says. No conditions. -/
import Derived.Test.YteamiconagjpcaaA
import Derived.Deep.RegionWith
namespace Go.Proofs.Yteamiconagjpcaa
open Go Go.RowKit

theorem nine {s : Int} (h : mayB s = true) : s = 1 ∨ s = 2 ∨ s = 3 ∨ s = 4 ∨ s = 5 ∨ s = 6 ∨ s = 7 ∨ s = 8 ∨ s = 9 := by
  simp [mayB] at h; omega

def rowL (s : Int) : List UInt8 := if s = 1 then [79, 67, 69, 82, 86, 83, 65] else if s = 2 then [67, 79, 76] else if s = 3 then [76, 67, 70] else if s = 4 then [70] else if s = 5 then [69] else if s = 6 then [82] else if s = 7 then [86] else if s = 8 then [83, 79, 82] else if s = 9 then [65, 79, 70] else []
def rowOf (s : Int) : ByteArray := ⟨(rowL s).toArray⟩
theorem rowOf_size (s : Int) (h : mayB s = true) : 1 ≤ (rowOf s).size ∧ (rowOf s).size ≤ 7 := by
  rcases nine h with rfl | rfl | rfl | rfl | rfl | rfl | rfl | rfl | rfl <;> decide

theorem rows30 (w : World) : Calls Try.prog 30 #[] w fun e w' => e = .returned (.slice (some ⟨w.heap.size, 0, none⟩) 9 9) ∧ ∃ o, w' = w.alloc o ∧ ∀ s, mayB s = true → w'.cell? ⟨w.heap.size, s.toNat - 1, none⟩ = some (.string (rowOf s)) := by
  go_enter Try.func30, Try.ntmps30
  go_wp2
  go_ret
  refine ⟨rfl, _, rfl, fun s hs => ?_⟩
  rw [World.cell?_alloc_at _ _ _ _ rfl]
  rcases nine hs with rfl | rfl | rfl | rfl | rfl | rfl | rfl | rfl | rfl <;> rfl

def letterOf (s : Int) : ByteArray := (rowOf s).extract 0 1
def lastR (s : Int) : Bool := mayB s && decide ((rowOf s).size = 1)

theorem letter_yes24 (s : Int) (w : World) (hm : mayB s = true) : Calls Try.prog 24 #[.int .i64 s] w fun e w' => e = .returned (.string (letterOf s)) ∧ Below w.heap.size w w' := by
  have h : 1 ≤ s ∧ s ≤ 9 := by simpa [mayB] using hm
  have hz := rowOf_size s hm
  have HM := Lib.hid hm; clear hm
  go_enter Try.func24, Try.ntmps24
  go_wp2_with (first | (go_at_call 8; refine (may8 _ _).mono ?_; rintro e w' ⟨rfl, rfl⟩; rw [HM.out]) | (go_at_call 30; refine (rows30 _).mono ?_; rintro e w' ⟨rfl, o, rfl, hc⟩; replace hc := hc s HM.out))
  go_ret
  exact ⟨rfl, (Below.refl _ _).alloc (Nat.le_refl _) _⟩

theorem letter_no24 (s : Int) (w : World) (hm : mayB s = false) : Calls Try.prog 24 #[.int .i64 s] w fun e w' => e = .returned (.string ⟨#[]⟩) ∧ w = w' := by
  have HM := Lib.hid hm; clear hm
  go_enter Try.func24, Try.ntmps24
  go_wp2_with (first | (go_at_call 8; refine (may8 _ _).mono ?_; rintro e w' ⟨rfl, rfl⟩; rw [HM.out]))
  go_ret
  exact ⟨rfl, rfl⟩

theorem last18 (s : Int) (w : World) : Calls Try.prog 18 #[.int .i64 s] w fun e w' => e = .returned (.bool (lastR s)) ∧ Below w.heap.size w w' := by
  rcases hm : mayB s with _ | _
  · have HM := Lib.hid hm; clear hm
    go_enter Try.func18, Try.ntmps18
    go_wp2_with (first | (go_at_call 8; refine (may8 _ _).mono ?_; rintro e w' ⟨rfl, rfl⟩; rw [HM.out]))
    go_ret
    exact ⟨by simp [lastR, HM.out], Below.refl _ _⟩
  · have h : 1 ≤ s ∧ s ≤ 9 := by simpa [mayB] using hm
    have hz := rowOf_size s hm
    have HM := Lib.hid hm; clear hm
    go_enter Try.func18, Try.ntmps18
    go_wp2_with (first | (go_at_call 8; refine (may8 _ _).mono ?_; rintro e w' ⟨rfl, rfl⟩; rw [HM.out]) | (go_at_call 30; refine (rows30 _).mono ?_; rintro e w' ⟨rfl, o, rfl, hc⟩; replace hc := hc s HM.out))
    go_ret
    refine ⟨ret_bool ?_, (Below.refl _ _).alloc (Nat.le_refl _) _⟩
    rw [lastR, HM.out, Bool.true_and, Bool.eq_iff_iff]
    simp
    omega

theorem leads_no21 (s t : Int) (w : World) (hm : (mayB s && mayB t) = false) : Calls Try.prog 21 #[.int .i64 s, .int .i64 t] w fun e w' => e = .returned (.bool false) ∧ w = w' := by
  rcases hs : mayB s with _ | _
  · have HM := Lib.hid hs; clear hs hm
    go_enter Try.func21, Try.ntmps21
    go_wp2_with (first | (go_at_call 8; refine (may8 _ _).mono ?_; rintro e w' ⟨rfl, rfl⟩; rw [HM.out]))
    go_ret
    exact ⟨rfl, rfl⟩
  · have ht : mayB t = false := by simpa [hs] using hm
    have HM := Lib.hid hs; clear hs hm
    have HT := Lib.hid ht; clear ht
    go_enter Try.func21, Try.ntmps21
    go_wp2_with (first | (go_at_call 8; refine (may8 _ _).mono ?_; rintro e w' ⟨rfl, rfl⟩; first | rw [HM.out] | rw [HT.out]))
    go_ret
    exact ⟨rfl, rfl⟩

def hitB (r : ByteArray) (t : Int) (j : Nat) : Bool := (r.extract j (j + 1)).toList == (letterOf t).toList
def leadsR (s t : Int) : Bool := mayB s && mayB t && (List.range (rowOf s).size).any fun j => decide (1 ≤ j) && hitB (rowOf s) t j
theorem leadsR_yes {s t : Int} (hs : mayB s = true) (ht : mayB t = true) {r : ByteArray} (hr : r = rowOf s) {k : Nat} (h1 : 1 ≤ k) (hk : k < r.size) (h : hitB r t k = true) : true = leadsR s t := by
  subst hr
  rw [leadsR, hs, ht, Bool.true_and, Bool.true_and, eq_comm, List.any_eq_true]
  exact ⟨k, by simpa using hk, by simp [h1, h]⟩
theorem leadsR_no {s t : Int} {r : ByteArray} (hr : r = rowOf s) (h : ∀ j, 1 ≤ j → j < r.size → hitB r t j = false) : false = leadsR s t := by
  subst hr
  have : (List.range (rowOf s).size).any (fun j => decide (1 ≤ j) && hitB (rowOf s) t j) = false := by
    rw [List.any_eq_false]
    intro j hj
    simp only [List.mem_range] at hj
    by_cases h1 : 1 ≤ j
    · simp [h j h1 hj]
    · simp [h1]
  rw [leadsR, this, Bool.and_false]


theorem leads_yes21 (s t : Int) (w : World) (hs : mayB s = true) (ht : mayB t = true) : Calls Try.prog 21 #[.int .i64 s, .int .i64 t] w fun e w' => e = .returned (.bool (leadsR s t)) ∧ Below w.heap.size w w' := by
  have h : 1 ≤ s ∧ s ≤ 9 := by simpa [mayB] using hs
  have hz := rowOf_size s hs
  have HM := Lib.hid hs; clear hs
  have HT := Lib.hid ht; clear ht
  go_enter Try.func21, Try.ntmps21
  go_wp2_with (first | (go_at_call 8; refine (may8 _ _).mono ?_; rintro e w' ⟨rfl, rfl⟩; first | rw [HM.out] | rw [HT.out]) | (go_at_call 30; refine (rows30 _).mono ?_; rintro e w' ⟨rfl, o, rfl, hc⟩; replace hc := hc s HM.out))
  have hb : Below w.heap.size w (w.alloc o) := (Below.refl _ _).alloc (Nat.le_refl _) _
  clear hc
  obtain ⟨r, hr⟩ : ∃ r, r = rowOf s := ⟨_, rfl⟩
  rw [← hr] at hz ⊢
  have HR := Lib.hid hr; clear hr
  go_loopw [6] (fun i wr => ∃ k : Nat, 1 ≤ k ∧ k ≤ r.size ∧ i = .int .i64 k ∧ (∀ j, 1 ≤ j → j < k → hitB r t j = false) ∧ Below w.heap.size w wr) (fun i _ => r.size - (intOf i).toNat)
  case atStart => exact ⟨1, by omega, by omega, rfl, fun j _ h => by omega, hb⟩
  case round =>
    clear hb
    obtain ⟨k, hk1, hk, rfl, hpre, hb⟩ := hrel
    have HP := Lib.hid hpre; clear hpre
    by_cases hlt : k < r.size
    · go_wp2
      have hx : (k : Int) + 1 ≤ r.size := by omega
      have hx0 : (0 : Int) ≤ k := by omega
      have hx2 : (0 : Int) ≤ (k : Int) + 1 := by omega
      have hx3 : (k : Int) ≤ (k : Int) + 1 := by omega
      have hw1 : IntKind.i64.wrap ((k : Int) + 1) = (k : Int) + 1 := IntWalk.i64_in _ (by omega)
      have hw2 : ((k : Int) + 1).toNat = k + 1 := by omega
      go_region_with (go_at_call 24; refine (letter_yes24 _ _ HT.out).mono ?_; rintro e w' ⟨rfl, hb'⟩)
      all_goals go_wp2
      all_goals first
        | (have hno : ((r.extract k (k + 1)).toList == (letterOf t).toList) = true := by assumption
           replace hno : hitB r t k = true := hno
           go_ret
           exact ⟨ret_bool (leadsR_yes HM.out HT.out HR.out hk1 hlt hno), hb.drew.trans (hb'.mono hb.size)⟩)
        | (have hno : ((r.extract k (k + 1)).toList == (letterOf t).toList) = false := by assumption
           replace hno : hitB r t k = false := hno
           go_roundw
           case rel => exact ⟨k + 1, by omega, by omega, by go_num, fun j h1 hj => (Nat.lt_succ_iff_lt_or_eq.1 hj).elim (HP.out j h1) (fun e => by subst e; exact hno), hb.drew.trans (hb'.mono hb.size)⟩
           case measure => simp [intOf]; omega)
    · go_wp2
      go_ret
      exact ⟨ret_bool (leadsR_no HR.out (fun j h1 hj => HP.out j h1 (by omega))), hb⟩
end Go.Proofs.Yteamiconagjpcaa
