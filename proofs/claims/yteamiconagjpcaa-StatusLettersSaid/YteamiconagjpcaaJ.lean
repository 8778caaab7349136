/- The chapter's rows: 'known' answers true. And what callers take of Way. -/
import Derived.Test.YteamiconagjpcaaI
namespace Go.Proofs.Yteamiconagjpcaa
open Go Go.RowKit Coup

theorem way_some13 (f t : Int) (l : List Int) (w : World) (hf : mayB f = true) (ht : mayB t = true) (hl : wayL f t = l) (hne : l ≠ []) :
    Calls Try.prog 13 #[.int .i64 f, .int .i64 t] w fun e w' => ∃ q c, e = .returned (.tuple #[.slice q l.length c, .int .i64 0]) ∧ IntsAt w' q l.length l ∧ Below w.heap.size w w' := by
  refine (way13 f t w hf ht).mono ?_
  rintro e w' ⟨q, c, rfl, h1, h2⟩
  subst hl
  exact ⟨q, c, by rw [if_neg hne], h1, h2⟩
theorem way_none13 (f t : Int) (w : World) (hf : mayB f = true) (ht : mayB t = true) (hl : wayL f t = []) :
    Calls Try.prog 13 #[.int .i64 f, .int .i64 t] w fun e w' => ∃ q c, e = .returned (.tuple #[.slice q 0 c, .int .i64 9]) ∧ Below w.heap.size w w' := by
  refine (way13 f t w hf ht).mono ?_
  rintro e w' ⟨q, c, rfl, h1, h2⟩
  exact ⟨q, c, by rw [hl]; rfl, h2⟩

theorem intsAt_new (w : World) (zs : List Int) (e : TypeId) (hl : zs.length ≤ maxLen) : IntsAt (w.alloc (.cells (zs.map (Value.int .i64)).toArray e)) (some ⟨w.heap.size, 0, none⟩) zs.length zs := by
  refine ⟨rfl, hl, fun _ => ⟨w.heap.size, 0, rfl, by simp, fun k hk => ?_⟩⟩
  rw [World.cell?_alloc_at _ _ _ _ rfl, Nat.zero_add, nth, List.getD_eq_getElem?_getD, List.getElem?_eq_getElem hk]
  simp [hk]

theorem walk_yes12' (p : Option Addr) (n c m : Nat) (er : Int) (xs : List Int) (w : World) (hx : IntsAt w p n xs) (ha : xs.all mayB = true) (hm : walkN xs = m) (he : walkErr xs = er) :
    Calls Try.prog 12 #[.slice p n c] w fun e w' => e = .returned (.tuple #[.int .i64 m, .int .i64 er]) ∧ Still w w' := by
  subst hm; subst he
  exact walk_yes12 p n c xs w hx ha

set_option maxHeartbeats 1000000 in
theorem known9 (w : World) : Calls Try.prog 9 #[] w fun e w' => e = .returned (.bool true) ∧ Below w.heap.size w w' := by
  have hw : wayL 3 6 = [3, 2, 1, 6] := by decide +kernel
  have HW := Lib.hid hw; clear hw
  go_enter Try.func9, Try.ntmps9
  go_wp2_with fail
  refine (way_some13 3 6 _ _ (by decide) (by decide) HW.out (by simp)).mono ?_
  rintro e w1 ⟨q, c, rfl, hq, hb1⟩
  go_wp2_with fail
  refine (walk_yes12' _ 3 3 0 0 [1, 9, 4] _ (intsAt_new w1 [1, 9, 4] 22 (by decide)) (by decide) (by decide +kernel) (by decide +kernel)).mono ?_
  rintro e w2 ⟨rfl, hs2⟩
  go_wp2_with fail
  refine (walk_yes12' _ 2 2 1 9 [1, 4] _ (intsAt_new w2 [1, 4] 22 (by decide)) (by decide) (by decide +kernel) (by decide +kernel)).mono ?_
  rintro e w3 ⟨rfl, hs3⟩
  have hb2 : Below w1.heap.size w1 w2 := ((Below.refl _ _).alloc (Nat.le_refl _) _).trans (hs2.below _)
  have hb3 : Below w2.heap.size w2 w3 := ((Below.refl _ _).alloc (Nat.le_refl _) _).trans (hs3.below _)
  have hq3 := (hq.below hb2 (Nat.le_refl _)).below hb3 (Nat.le_refl _)
  have hq4 := hq3.below ((Below.refl _ _).alloc (Nat.le_refl _) (.cells #[.int .i64 3, .int .i64 2, .int .i64 1, .int .i64 6] 22)) (Nat.le_refl _)
  have hball := (hb1.trans (hb2.mono hb1.size)).trans (hb3.mono (Nat.le_trans hb1.size hb2.size))
  have hbsz := hball.size
  clear hq hq3 hs2 hs3
  go_wp2_with (first | (go_at_call 16; refine (same16 _ _ 4 4 _ _ [3, 2, 1, 6] [3, 2, 1, 6] _ hq4 (intsAt_new w3 [3, 2, 1, 6] 22 (by decide))).mono ?_; rintro e w4 ⟨rfl, hs4⟩))
  go_ret
  exact ⟨rfl, (hball.alloc hbsz _).trans (hs4.below _)⟩
end Go.Proofs.Yteamiconagjpcaa
