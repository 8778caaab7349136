/- The law StatusLeads: its walk. -/
import Derived.Test.YteamiconagjpcaaJ
namespace Go.Proofs.Yteamiconagjpcaa
open Go Go.RowKit Coup

theorem live_no {f : Int} (h : mayB f = false) : liveB f = false := by
  have hb : bitsN f = 0 := by
    have h' : ¬ (1 ≤ f ∧ f ≤ 9) := by intro h1; simp [mayB, h1] at h
    unfold bitsN
    repeat' split
    all_goals first | rfl | (rename_i h1; simp at h1; omega)
  rw [liveB, hb]; rfl
theorem live_yes {f : Int} (h : mayB f = true) : liveB f = !lastB f := by
  rw [liveB, lastB, h, Bool.true_and]; rfl

set_option maxHeartbeats 1000000 in
theorem law5 (f t : Int) (w : World) : Calls Try.prog 5 #[.int .i64 f, .int .i64 t] w fun e w' => e = .returned (.bool true) ∧ Below w.heap.size w w' := by
  have hmain : ∀ m, mayB f = m → liveB f = (m && !lastB f) → Calls Try.prog 5 #[.int .i64 f, .int .i64 t] w fun e w' => e = .returned (.bool true) ∧ Below w.heap.size w w' := by
    intro m hm hlv
    obtain ⟨i0, hi, hz0, hz1, hz2⟩ := info_parts info22
    have HM := Lib.hid hm; clear hm
    have HLV := Lib.hid hlv; clear hlv
    have hB : Below w.heap.size w w := Below.refl _ _
    cases m
    all_goals
      go_enter Try.func5, Try.ntmps5
      go_wp2_with (first
        | (go_at_call 17; refine (may17 _ _).mono ?_; rintro e w' ⟨rfl, rfl⟩; rw [HM.out])
        | (go_at_call 8; refine (may8 _ _).mono ?_; rintro e w' ⟨rfl, rfl⟩; rw [HM.out])
        | (go_at_call 11; refine (last11 _ _).mono ?_; rintro e w' ⟨rfl, rfl⟩)
        | (go_at_call 18; refine (lastR18 _ _).mono ?_; rintro e w' ⟨rfl, hb'⟩; replace hB := hB.trans (hb'.mono hB.size); clear hb')
        | (go_at_call 19; refine (live19 _ _).mono ?_; rintro e w' ⟨rfl, rfl⟩; rw [HLV.out])
        | (go_at_call 20; refine (leads20 _ _ _).mono ?_; rintro e w' ⟨rfl, rfl⟩)
        | (go_at_call 21; refine (leads21 _ _ _).mono ?_; rintro e w' ⟨rfl, hb'⟩; replace hB := hB.trans (hb'.mono hB.size); clear hb'))
      go_loopw [5, 6] (fun v i wr => ∃ k : Nat, k ≤ 9 ∧ i = .int .i64 ((k : Int) + 1) ∧ wr.ownsRow w.heap.size 22 1 v (nextTo f k).length ((nextTo f k).map (.int .i64)) ∧ Below w.heap.size w wr) (fun _ i _ => 10 - (intOf i).toNat)
      case atStart => exact ⟨0, Nat.zero_le _, rfl, World.ownsRow_nil _ _ _ _, hB⟩
      case round =>
        clear hB
        obtain ⟨k, hk, rfl, hown, hb⟩ := hrel
        by_cases hlt : k < 9
        · rcases hl : leadsB f ((k : Int) + 1) with _ | _
          · have HL := Lib.hid hl; clear hl
            go_wp2_with (first
              | (go_at_call 21; refine (leads21 _ _ _).mono ?_; rintro e w1 ⟨rfl, hb'⟩; rw [HL.out]))
            go_roundw
            case rel => exact ⟨k + 1, by omega, by go_num, by rw [nextTo_no HL.out]; exact ownsRow_below hown hb', hb.trans (hb'.mono hb.size)⟩
            case measure => simp [intOf]; omega
          · have hln := nextTo_len f k
            have HL := Lib.hid hl; clear hl
            have hbs := hb.size
            go_wp2_with (first
              | (go_at_call 21; refine (leads21 _ _ _).mono ?_; rintro e w1 ⟨rfl, hb'⟩; rw [HL.out])
              | (at_builtin; refine wpList_append_own _ rfl _ _ 26 rfl w.heap.size 22 i0 (.int .i64 0) 1 8 Try.underlying26 hi hz0 hz1 hz2 rfl (by decide) _ _ _ rfl ((ownsRow_below hown hb').alloc _) ⟨w1.heap.size, 0, none⟩ 1 1 [.int .i64 ((k : Int) + 1)] rfl rfl (cell_one_new _ _ _) (ints_oneCell .i64 [(k : Int) + 1]) (by unfold maxLen; omega) (by omega) (by have := hb'.size; simp; omega) ?_; intro v' w2 hown' hgrow _))
            go_roundw
            case rel => exact ⟨k + 1, by omega, by go_num, by rw [nextTo_yes HL.out, List.length_append, List.map_append]; exact hown', ((hb.trans (hb'.mono hbs)).alloc (Nat.le_trans hbs hb'.size) _).grown hgrow (by have := hb'.size; simp; omega) (fun j hj => (hown.lt j hj).1)⟩
            case measure => simp [intOf]; omega
        · have h9 : k = 9 := by omega
          have H9 := Lib.hid h9; clear h9
          obtain ⟨p, c, rfl⟩ := ownsRow_form hown
          have hx := intsAt_own hown
          have hN : nextTo f k = nextL f := by rw [H9.out]; rfl
          have HN := Lib.hid hN; clear hN
          have hdec : decide (nextL f = nextTo f k) = true := by rw [HN.out]; simp
          have HD := Lib.hid hdec; clear hdec
          go_wp2_with (first
            | (go_at_call 10; refine (next10 _ _).mono ?_; rintro e w1 ⟨vn, rfl, hownN, hbN⟩; obtain ⟨pn, cn, hvn⟩ := ownsRow_form hownN; rw [hvn]; rw [hvn] at hownN; clear hvn)
            | (go_at_call 16; refine (same16 _ _ _ _ _ _ (nextL f) (nextTo f k) _ (intsAt_own hownN) (hx.below hbN (Nat.le_refl _))).mono ?_; rintro e w2 ⟨rfl, hs2⟩; rw [HD.out])
            | (go_at_call 9; refine (known9 _).mono ?_; rintro e w3 ⟨rfl, hb3⟩))
          go_ret
          exact ⟨rfl, ((hb.trans (hbN.mono hb.size)).trans (hs2.below _)).trans (hb3.mono (Nat.le_trans hb.size (Nat.le_trans hbN.size (hs2.below 0).size)))⟩
  rcases hm : mayB f with _ | _
  · exact hmain _ hm (by rw [live_no hm]; rfl)
  · exact hmain _ hm (by rw [live_yes hm]; rfl)
end Go.Proofs.Yteamiconagjpcaa
