/- The reference's shortest walk, at statuses that may be. -/
import Derived.Test.YteamiconagjpcaaE
namespace Go.Proofs.Yteamiconagjpcaa
open Go Go.RowKit

def rowsN (f : Int) : Nat → List (List Int)
  | 0 => [[f]]
  | n + 1 => onL (rowsN f n)
def hitR (t : Int) (row : List Int) : Bool := lastOf row == t
/-- The first of the shortest walks; nothing: there is none. -/
def wayL (f t : Int) : List Int := ((List.range 9).findSome? fun n => (rowsN f n).find? (hitR t)).getD []
def fineB (xss : List (List Int)) : Bool := decide (xss.length ≤ 1000) && xss.all fun r => decide (1 ≤ r.length) && decide (r.length ≤ 100)
theorem rowsN_fine {f : Int} (h : mayB f = true) (n : Nat) (hn : n ≤ 9) : fineB (rowsN f n) = true := by
  have : n = 0 ∨ n = 1 ∨ n = 2 ∨ n = 3 ∨ n = 4 ∨ n = 5 ∨ n = 6 ∨ n = 7 ∨ n = 8 ∨ n = 9 := by omega
  rcases nine h with rfl | rfl | rfl | rfl | rfl | rfl | rfl | rfl | rfl <;>
  rcases this with rfl | rfl | rfl | rfl | rfl | rfl | rfl | rfl | rfl | rfl <;> decide +kernel
theorem fine_out {xss : List (List Int)} (h : fineB xss = true) : xss.length ≤ 1000 ∧ ∀ k, k < xss.length → 1 ≤ (xss.getD k []).length ∧ (xss.getD k []).length ≤ 100 := by
  simp only [fineB, Bool.and_eq_true, List.all_eq_true, decide_eq_true_eq] at h
  refine ⟨h.1, fun k hk => h.2 _ ?_⟩
  rw [List.getD_eq_getElem?_getD, List.getElem?_eq_getElem hk]
  exact List.getElem_mem _

theorem wayL_hit {f t : Int} {n i : Nat} (hn : n < 9) (hpre : ∀ j, j < n → (rowsN f j).find? (hitR t) = none) (hi : i < (rowsN f n).length) (hpi : ∀ j, j < i → hitR t ((rowsN f n).getD j []) = false) (h : hitR t ((rowsN f n).getD i []) = true) :
    wayL f t = (rowsN f n).getD i [] := by
  have h1 : (rowsN f n).find? (hitR t) = some ((rowsN f n).getD i []) := by
    rw [List.find?_eq_some_iff_getElem]
    refine ⟨h, i, hi, ?_, fun j hj => ?_⟩
    · rw [List.getD_eq_getElem?_getD, List.getElem?_eq_getElem hi]; rfl
    · have := hpi j hj
      rw [List.getD_eq_getElem?_getD, List.getElem?_eq_getElem (by omega)] at this
      simpa using this
  have h2 : (List.range 9).findSome? (fun n => (rowsN f n).find? (hitR t)) = some ((rowsN f n).getD i []) := by
    rw [show List.range 9 = List.range n ++ (n :: (List.range (9 - n - 1)).map (· + (n + 1))) from ?_, List.findSome?_append]
    · rw [show (List.range n).findSome? (fun n => (rowsN f n).find? (hitR t)) = none from List.findSome?_eq_none_iff.2 (fun j hj => hpre j (by simpa using hj))]
      rw [List.findSome?_cons, h1]; rfl
    · have : n = 0 ∨ n = 1 ∨ n = 2 ∨ n = 3 ∨ n = 4 ∨ n = 5 ∨ n = 6 ∨ n = 7 ∨ n = 8 := by omega
      rcases this with rfl | rfl | rfl | rfl | rfl | rfl | rfl | rfl | rfl <;> rfl
  rw [wayL, h2]; rfl
theorem wayL_none {f t : Int} (hpre : ∀ j, j < 9 → (rowsN f j).find? (hitR t) = none) : wayL f t = [] := by
  rw [wayL, show (List.range 9).findSome? (fun n => (rowsN f n).find? (hitR t)) = none from List.findSome?_eq_none_iff.2 (fun j hj => hpre j (by simpa using hj))]; rfl
theorem find_none {t : Int} {xss : List (List Int)} (h : ∀ j, j < xss.length → hitR t (xss.getD j []) = false) : xss.find? (hitR t) = none := by
  rw [List.find?_eq_none]
  intro r hr
  obtain ⟨i, hi, rfl⟩ := List.mem_iff_getElem.1 hr
  have := h i hi
  rw [List.getD_eq_getElem?_getD, List.getElem?_eq_getElem hi] at this
  simpa using this

theorem OutAt.one (w : World) (f : Int) : OutAt ((w.alloc (.cells #[.int .i64 f] 22)).alloc (.cells #[.slice (some ⟨w.heap.size, 0, none⟩) 1 1] 26)) w.heap.size (.slice (some ⟨w.heap.size + 1, 0, none⟩) 1 1) (rowsN f 0) := by
  refine ⟨[.slice (some ⟨w.heap.size, 0, none⟩) 1 1], rfl, ⟨rfl, .inr ⟨w.heap.size + 1, 1, #[.slice (some ⟨w.heap.size, 0, none⟩) 1 1], rfl, by omega, ?_, Nat.le_refl _, by decide, rfl, rfl⟩⟩, fun i hi => ?_⟩
  · have := heap_alloc_new (w.alloc (.cells #[.int .i64 f] 22)) (.cells #[.slice (some ⟨w.heap.size, 0, none⟩) 1 1] 26)
    simpa using this
  · obtain rfl : i = 0 := by simp [rowsN] at hi; omega
    refine ⟨rfl, .inr ⟨w.heap.size, 1, #[.int .i64 f], rfl, Nat.le_refl _, ?_, Nat.le_refl _, by decide, rfl, rfl⟩⟩
    rw [heap_alloc_old _ _ (by simp)]
    exact heap_alloc_new w _

set_option maxHeartbeats 1000000 in
set_option maxRecDepth 100000 in
theorem way15 (f t : Int) (w : World) (hf : mayB f = true) :
    Calls Try.prog 15 #[.int .i64 f, .int .i64 t] w fun e w' => ∃ q c, e = .returned (.slice q (wayL f t).length c) ∧ IntsAt w' q (wayL f t).length (wayL f t) ∧ Below w.heap.size w w' := by
  have HF := Lib.hid hf; clear hf
  have hstart := OutAt.one w f
  have hbs : Below w.heap.size w ((w.alloc (.cells #[.int .i64 f] 22)).alloc (.cells #[.slice (some ⟨w.heap.size, 0, none⟩) 1 1] 26)) := ((Below.refl _ _).alloc (Nat.le_refl _) _).alloc (by simp) _
  go_enter Try.func15, Try.ntmps15
  go_wp2
  go_loopw [5, 6] (fun v i wr => ∃ n : Nat, n ≤ 9 ∧ i = .int .i64 n ∧ OutAt wr w.heap.size v (rowsN f n) ∧ (∀ j, j < n → (rowsN f j).find? (hitR t) = none) ∧ Below w.heap.size w wr) (fun _ i _ => 9 - (intOf i).toNat)
  case atStart => exact ⟨0, by omega, rfl, hstart, fun j h => by omega, hbs⟩
  case round =>
    clear hstart hbs
    obtain ⟨n, hn, rfl, hout, hpre, hb⟩ := hrel
    have HP := Lib.hid hpre; clear hpre
    by_cases hlt : n < 9
    · obtain ⟨hf1, hf2⟩ := fine_out (rowsN_fine HF.out n (by omega))
      obtain ⟨xss, hx⟩ : ∃ xss, xss = rowsN f n := ⟨_, rfl⟩
      obtain ⟨p, c, rfl, hrows⟩ := hout.rows
      rw [← hx] at hf1 hf2 hout hrows ⊢
      have HX := Lib.hid hx; clear hx
      have HF2 := Lib.hid hf2; clear hf2
      have HO := Lib.hid hout; clear hout
      obtain ⟨m, hm⟩ : ∃ m, m = xss.length := ⟨_, rfl⟩
      have HR := Lib.hid hrows
      obtain ⟨-, -, hr3⟩ := hrows
      rw [← hm] at hr3 hf1 ⊢
      have HM := Lib.hid hm; clear hm
      obtain ⟨wo, rfl⟩ : ∃ wo : World, wo = wr := ⟨_, rfl⟩
      go_wp2
      go_loopw [7] (fun i wm => ∃ k : Nat, k ≤ m ∧ i = .int .i64 k ∧ (∀ j, j < k → hitR t (xss.getD j []) = false) ∧ Still wo wm) (fun i _ => m - (intOf i).toNat)
      case atStart => exact ⟨0, by omega, rfl, fun j h => by omega, Still.refl _⟩
      case round =>
        obtain ⟨k, hk, rfl, hpk, hs⟩ := hrel
        have HPK := Lib.hid hpk; clear hpk
        by_cases hkm : k < m
        · obtain ⟨b, off, rfl, hbs, hc⟩ := hr3 (by omega)
          obtain ⟨q, qc, h1, hrow⟩ := hc k hkm
          have h1' := HF2.out k (by rw [← HM.out]; exact hkm)
          obtain ⟨row, hr⟩ : ∃ row, row = xss.getD k [] := ⟨_, rfl⟩
          rw [← hr] at h1 hrow h1'
          obtain ⟨hl1, hl2⟩ := h1'
          obtain ⟨l, hl⟩ : ∃ l, l = row.length := ⟨_, rfl⟩
          rw [← hl] at h1 hrow hl1 hl2
          have HR := Lib.hid hr; clear hr
          have HL := Lib.hid hl; clear hl hc hr3
          have hrow' := hrow
          obtain ⟨-, -, hr3⟩ := hrow
          obtain ⟨br, ofr, rfl, hbr, hcr⟩ := hr3 (by omega)
          replace h1 := (hs.cell _).trans h1
          have h2 := (hs.cell _).trans (hcr (l - 1) (by omega))
          rw [show nth row (l - 1) = lastOf row from by rw [lastOf, ← HL.out]] at h2
          clear hcr hr3
          obtain ⟨la, hla⟩ : ∃ la, la = lastOf row := ⟨_, rfl⟩
          rw [← hla] at h2
          have HLA := Lib.hid hla; clear hla
          have hx0 : (0 : Int) ≤ l - 1 := by omega
          have hx2 : (l : Int) - 1 < l := by omega
          have hx3 : (k : Int) < m := by omega
          have hx4 : (1 : Int) ≤ l := by omega
          have hw1 : IntKind.i64.wrap ((l : Int) - 1) = (l : Int) - 1 := IntWalk.i64_in _ (by omega)
          have hw2 : ((l : Int) - 1).toNat = l - 1 := by omega
          have HI := Lib.hid hrow'; clear hrow'
          go_wp2
          go_quiet (fail)
          go_wp2
          · have hh : (la == t) = true := by assumption
            replace hh : hitR t row = true := by rw [hitR, ← HLA.out]; exact hh
            rename_i nq _
            have hh2 : hitR t (xss.getD k []) = true := by rw [← HR.out]; exact hh
            have hw : wayL f t = row := by
              rw [HR.out, HX.out]
              exact wayL_hit hlt HP.out (by rw [← HX.out, ← HM.out]; exact hkm) (fun j hj => by rw [← HX.out]; exact HPK.out j hj) (by rw [← HX.out]; exact hh2)
            go_ret
            refine ⟨some ⟨br, ofr, none⟩, qc, ?_, ?_, hb.trans ((hs.drewN _).below _)⟩
            · rw [hw, ← HL.out]; rfl
            · rw [hw, ← HL.out]; exact HI.out.still (hs.drewN _)
          · have hh : (la == t) = false := by assumption
            replace hh : hitR t row = false := by rw [hitR, ← HLA.out]; exact hh
            have hh2 : hitR t (xss.getD k []) = false := by rw [← HR.out]; exact hh
            go_roundw
            case rel => exact ⟨k + 1, by omega, by go_num, fun j hj => (Nat.lt_succ_iff_lt_or_eq.1 hj).elim (HPK.out j) (fun e => by subst e; exact hh2), hs.drewN _⟩
            case measure => simp [intOf]; omega
        · have hkk : k = m := by omega
          have HK := Lib.hid hkk; clear hkk
          have hnone : (rowsN f n).find? (hitR t) = none := by rw [← HX.out]; exact find_none (fun j hj => HPK.out j (by rw [HK.out, HM.out]; exact hj))
          have HNO := Lib.hid hnone; clear hnone
          have hrw : RowsAt _ p m xss := RowsAt.below (by rw [HM.out]; exact HR.out) (hs.below wo.heap.size) (Nat.le_refl _)
          have hne : ∀ k, k < m → 1 ≤ (xss.getD k []).length ∧ (xss.getD k []).length ≤ 100 := by rw [HM.out]; exact HF2.out
          have HNE := Lib.hid hne; clear hne
          have HRW := Lib.hid hrw; clear hrw
          go_wp2_with (first
            | (go_at_call 29; refine (on29 _ _ _ xss _ HRW.out hf1 HNE.out).mono ?_; rintro e w1 ⟨v1, rfl, hout1, hb1⟩))
          go_roundw
          case rel => exact ⟨n + 1, by omega, by go_num, by rw [rowsN, ← HX.out]; exact hout1.mono (Nat.le_trans hb.size (hs.below 0).size), fun j hj => (Nat.lt_succ_iff_lt_or_eq.1 hj).elim (HP.out j) (fun e => by subst e; exact HNO.out), (hb.trans (hs.below _)).trans (hb1.mono (Nat.le_trans hb.size (hs.below 0).size))⟩
          case measure => simp [intOf]; omega
    · have hn9 : n = 9 := by omega
      have hw : wayL f t = [] := wayL_none (fun j hj => HP.out j (by omega))
      have HN := Lib.hid hn9; clear hn9
      have HW := Lib.hid hw; clear hw
      go_wp2
      go_ret
      refine ⟨none, 0, by rw [HW.out]; rfl, ?_, hb⟩
      rw [HW.out]
      exact ⟨rfl, Nat.zero_le _, fun h => absurd h (Nat.lt_irrefl 0)⟩
end Go.Proofs.Yteamiconagjpcaa
