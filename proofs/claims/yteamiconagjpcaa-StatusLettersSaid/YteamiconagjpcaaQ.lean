/- The law StatusGoes: its walk. -/
import Derived.Test.YteamiconagjpcaaO
namespace Go.Proofs.Yteamiconagjpcaa
open Go Go.RowKit Coup

def nines : List Int := [1, 2, 3, 4, 5, 6, 7, 8, 9]
theorem mem_nines {s : Int} (h : mayB s = true) : s ∈ nines := by
  rcases nine h with rfl | rfl | rfl | rfl | rfl | rfl | rfl | rfl | rfl <;> simp [nines]
/-- How long the shortest walks from one are; 0: there is none. -/
def lensOf (f : Int) : List Nat := nines.map fun t => (wayL f t).length
def lenAt (l : List Nat) (t : Int) : Nat := l.getD (t.toNat - 1) 0
def triB (f : Int) (l : List Nat) : Bool :=
  decide (lenAt l f = 1) && nines.all fun s => nines.all fun t => !leadsB s t || decide (lenAt l s = 0) || (decide (0 < lenAt l t) && decide (lenAt l t ≤ lenAt l s + 1))
theorem triB_all : nines.all (fun f => triB f (lensOf f)) = true := by decide +kernel
theorem lenAt_way {f t : Int} (ht : mayB t = true) : lenAt (lensOf f) t = (wayL f t).length := by
  rcases nine ht with rfl | rfl | rfl | rfl | rfl | rfl | rfl | rfl | rfl <;> rfl
theorem way_self {f : Int} (hf : mayB f = true) : (wayL f f).length = 1 := by
  have h := List.all_eq_true.1 triB_all f (mem_nines hf)
  rw [triB, Bool.and_eq_true, decide_eq_true_eq, lenAt_way hf] at h
  exact h.1
theorem way_step' {f s t : Int} (hf : mayB f = true) (hs : mayB s = true) (ht : mayB t = true) (hl : leadsB s t = true) (h0 : 0 < (wayL f s).length) : 0 < (wayL f t).length ∧ (wayL f t).length ≤ (wayL f s).length + 1 := by
  have h := List.all_eq_true.1 triB_all f (mem_nines hf)
  rw [triB, Bool.and_eq_true] at h
  have h2 := List.all_eq_true.1 (List.all_eq_true.1 h.2 s (mem_nines hs)) t (mem_nines ht)
  rw [hl, lenAt_way hs, lenAt_way ht] at h2
  simp only [Bool.not_true, Bool.false_or, Bool.or_eq_true, decide_eq_true_eq, Bool.and_eq_true] at h2
  rcases h2 with h2 | h2
  · omega
  · exact h2

/-- A row that is a walk from f, no shorter than the shortest one to where it ends. -/
structure GoesR (f : Int) (r : List Int) : Prop where
  pos : 0 < r.length
  may : r.all mayB = true
  step : ∀ j, 1 ≤ j → j < r.length → stepB r j = true
  way : 0 < (wayL f (lastOf r)).length ∧ (wayL f (lastOf r)).length ≤ r.length
theorem GoesR.start {f : Int} (hf : mayB f = true) : GoesR f [f] := by
  have e : lastOf [f] = f := rfl
  refine ⟨by simp, by simp [hf], fun j h1 h2 => by simp at h2; omega, ?_⟩
  rw [e, way_self hf]
  exact ⟨Nat.one_pos, Nat.le_refl _⟩
theorem nth_append_left {l m : List Int} {k : Nat} (h : k < l.length) : nth (l ++ m) k = nth l k := by
  rw [nth, nth, List.getD_eq_getElem?_getD, List.getD_eq_getElem?_getD, List.getElem?_append_left h]
theorem nth_append_last {l : List Int} {x : Int} : nth (l ++ [x]) l.length = x := by
  rw [nth, List.getD_eq_getElem?_getD, List.getElem?_append_right (Nat.le_refl _)]; simp
theorem GoesR.snoc {f s : Int} {r : List Int} (hf : mayB f = true) (h : GoesR f r) (hs : mayB s = true) (hl : leadsB (lastOf r) s = true) : GoesR f (r ++ [s]) := by
  have hp := h.pos
  have hlast : mayB (lastOf r) = true := List.all_eq_true.1 h.may _ (nth_mem (by omega))
  have el : lastOf (r ++ [s]) = s := by rw [lastOf, List.length_append, List.length_singleton, Nat.add_sub_cancel]; exact nth_append_last
  refine ⟨by simp, by simp [h.may, hs], fun j h1 h2 => ?_, ?_⟩
  · rw [List.length_append, List.length_singleton] at h2
    rw [stepB, nth_append_left (k := j - 1) (by omega)]
    by_cases hj : j < r.length
    · rw [nth_append_left hj]; exact h.step j h1 hj
    · obtain rfl : j = r.length := by omega
      rw [nth_append_last]; exact hl
  · rw [el, List.length_append, List.length_singleton]
    have := way_step' hf hlast hs hl h.way.1
    have := h.way.2
    omega
theorem next_mem {a s : Int} (h : s ∈ nextL a) : mayB s = true ∧ leadsB a s = true := by
  rw [nextL, nextTo, List.mem_filter] at h
  refine ⟨?_, h.2⟩
  have := h.2
  rw [leadsB, Bool.and_eq_true] at this
  exact this.1
theorem next_none {a : Int} (ha : mayB a = true) (h : nextL a = []) : lastB a = true := by
  rcases nine ha with rfl | rfl | rfl | rfl | rfl | rfl | rfl | rfl | rfl <;> revert h <;> decide +kernel

theorem pick_lt (x : Int) (q : Nat) (h0 : 0 < q) (h9 : q ≤ 9) : ∃ t : Nat, (wrap64 (x.tmod q + q)).tmod q = t ∧ t < q := by
  have h1 : x.tmod q < q := Int.tmod_lt_of_pos _ (by omega)
  have h2 : -(q : Int) < x.tmod q := by
    have := Int.lt_tmod_of_pos x (b := (q : Int)) (by omega)
    omega
  rw [IntWalk.wrap64_in _ (by omega)]
  have h3 : 0 ≤ (x.tmod q + q).tmod q := Int.tmod_nonneg _ (by omega)
  have h4 : (x.tmod q + q).tmod q < q := Int.tmod_lt_of_pos _ (by omega)
  exact ⟨((x.tmod q + q).tmod q).toNat, by omega, by omega⟩

theorem law3_long (f : Int) (p : Option Addr) (n c : Nat) (w : World) (h : mayB f = false ∨ (mayB f = true ∧ 60 < n)) : Calls Try.prog 3 #[.int .i64 f, .slice p n c] w fun e w' => e = .returned (.bool true) ∧ Below w.heap.size w w' := by
  rcases h with hm | ⟨hm, hn⟩
  · have HM := Lib.hid hm; clear hm
    go_enter Try.func3, Try.ntmps3
    go_wp2_with (first
      | (go_at_call 8; refine (may8 _ _).mono ?_; rintro e w' ⟨rfl, rfl⟩; rw [HM.out])
      | (go_at_call 9; refine (known9 _).mono ?_; rintro e w3 ⟨rfl, hb3⟩))
    go_ret
    exact ⟨rfl, hb3⟩
  · have HM := Lib.hid hm; clear hm
    have hx : (60 : Int) < n := by omega
    go_enter Try.func3, Try.ntmps3
    go_wp2_with (first
      | (go_at_call 8; refine (may8 _ _).mono ?_; rintro e w' ⟨rfl, rfl⟩; rw [HM.out])
      | (go_at_call 9; refine (known9 _).mono ?_; rintro e w3 ⟨rfl, hb3⟩))
    go_ret
    exact ⟨rfl, hb3⟩

set_option maxHeartbeats 2000000 in
theorem law3_main (f : Int) (p : Option Addr) (n c : Nat) (zs : List Int) (w : World) (hx : IntsAt w p n zs) (hm : mayB f = true) (hn : n ≤ 60) : Calls Try.prog 3 #[.int .i64 f, .slice p n c] w fun e w' => e = .returned (.bool true) ∧ Below w.heap.size w w' := by
  obtain ⟨-, -, hx3⟩ := hx
  have HM := Lib.hid hm; clear hm
  obtain ⟨i0, hi, hz0, hz1, hz2⟩ := info_parts info22
  have hnn : (n : Int) ≤ 60 := by omega
  have hst : (w.alloc (.cells #[.int .i64 f] 22)).ownsRow w.heap.size 22 1 (.slice (some ⟨w.heap.size, 0, none⟩) 1 1) [f].length ([f].map (.int .i64)) := ⟨rfl, .inr ⟨w.heap.size, 1, #[.int .i64 f], rfl, Nat.le_refl _, heap_alloc_new _ _, Nat.le_refl _, by decide, rfl, rfl⟩⟩
  have hb0 : Below w.heap.size w (w.alloc (.cells #[.int .i64 f] 22)) := (Below.refl _ _).alloc (Nat.le_refl _) _
  go_enter Try.func3, Try.ntmps3
  go_upto_block 0 with (first
    | (go_at_call 8; refine (may8 _ _).mono ?_; rintro e w' ⟨rfl, rfl⟩; rw [HM.out]))
  go_cut [5] (fun v wx => ∃ r : List Int, Hid (GoesR f r) ∧ r.length ≤ 61 ∧ wx.ownsRow w.heap.size 22 1 v r.length (r.map (.int .i64)) ∧ Below w.heap.size w wx)
  case first =>
    go_wp2
    go_loopw [5, 6] (fun v i wx => ∃ (k : Nat) (r : List Int), k ≤ n ∧ i = .int .i64 k ∧ Hid (GoesR f r) ∧ r.length ≤ k + 1 ∧ wx.ownsRow w.heap.size 22 1 v r.length (r.map (.int .i64)) ∧ Below w.heap.size w wx) (fun _ i _ => n - (intOf i).toNat)
    case atStart => exact ⟨0, [f], Nat.zero_le _, rfl, GoesR.start HM.out, Nat.le_refl _, hst, hb0⟩
    case round =>
      clear hst hb0
      obtain ⟨k, r, hk, rfl, hg, hrl, hown, hb⟩ := hrel
      have hpos := hg.out.pos
      obtain ⟨rb, rc, rfl, hrb, hrs⟩ := ownsRow_form' hown hpos
      by_cases hlt : k < n
      · have h1 := (own_cell hown (r.length - 1) (by omega)).1
        rw [show nth r (r.length - 1) = lastOf r from rfl] at h1
        obtain ⟨m, hm⟩ : ∃ m, m = r.length := ⟨_, rfl⟩
        rw [← hm] at h1 hrl hown hpos ⊢
        have HMR := Lib.hid hm; clear hm
        obtain ⟨la, hla⟩ : ∃ la, la = lastOf r := ⟨_, rfl⟩
        rw [← hla] at h1
        have HLA := Lib.hid hla; clear hla
        obtain ⟨b, off, rfl, hbs, hc⟩ := hx3 (by omega)
        have h2 := (hb.cell (p := ⟨b, off + k, none⟩) hbs).trans (hc k hlt)
        clear hc hx3
        have hnl := nextTo_len la 9
        change (nextL la).length ≤ 9 at hnl
        obtain ⟨nx, hnx⟩ : ∃ nx, nx = nextL la := ⟨_, rfl⟩
        rw [← hnx] at hnl
        have HNX := Lib.hid hnx; clear hnx
        obtain ⟨q, hq⟩ : ∃ q, q = nx.length := ⟨_, rfl⟩
        rw [← hq] at hnl
        have HQ := Lib.hid hq; clear hq
        obtain ⟨x, hx⟩ : ∃ x, x = nth zs k := ⟨_, rfl⟩
        rw [← hx] at h2
        clear hx
        rcases Nat.eq_zero_or_pos q with hq0 | hq0
        · have hlast : lastB la = true := next_none (by rw [HLA.out]; exact List.all_eq_true.1 hg.out.may _ (nth_mem (by have := HMR.out; omega))) (by rw [← HNX.out]; exact List.eq_nil_of_length_eq_zero (by rw [← HQ.out]; exact hq0))
          have HLB := Lib.hid hlast; clear hlast
          subst hq0
          go_wp2_with (first
            | (go_at_call 10; refine (next10 _ _).mono ?_; rintro e w1 ⟨vn, rfl, hownN, hbN⟩; rw [← HNX.out, ← HQ.out] at hownN; obtain ⟨pn, cn, hvn⟩ := ownsRow_form hownN; rw [hvn]; rw [hvn] at hownN; clear hvn)
            | (go_at_call 11; refine (last11 _ _).mono ?_; rintro e w' ⟨rfl, rfl⟩; rw [HLB.out]))
          go_meet
          exact ⟨r, hg, by have := HMR.out; omega, by rw [← HMR.out]; exact ownsRow_below hown hbN, hb.trans (hbN.mono hb.size)⟩
        · have hbsz := hb.size
          have hq1 : (0 : Int) < q := by omega
          obtain ⟨t, ht, htq⟩ := pick_lt x q hq0 hnl
          have ht2 : (t : Int) < q := by omega
          go_wp2_with (first
            | (go_at_call 10; refine (next10 _ _).mono ?_; rintro e w1 ⟨vn, rfl, hownN, hbN⟩; rw [← HNX.out, ← HQ.out] at hownN; obtain ⟨gn, cn, hvn, hgn1, hgn2⟩ := ownsRow_form' hownN hq0; rw [hvn]; rw [hvn] at hownN; clear hvn; have h3 := (hbN.cell (p := ⟨b, off + k, none⟩) (by show b < _; omega)).trans h2; have h4 := (own_cell hownN t htq).1)
            | (at_builtin; refine wpList_append_own _ rfl _ _ 26 rfl w.heap.size 22 i0 (.int .i64 0) 1 8 Try.underlying26 hi hz0 hz1 hz2 rfl (by decide) _ _ _ rfl ((ownsRow_below hown hbN).alloc _) ⟨w1.heap.size, 0, none⟩ 1 1 [.int .i64 (nth nx t)] rfl rfl (cell_one_new _ _ _) (ints_oneCell .i64 [nth nx t]) (by unfold maxLen; omega) (by omega) (by have := hbN.size; simp; omega) ?_; intro v' w2 hown' hgrow _))
          have hnm : nth nx t ∈ nextL la := by rw [← HNX.out]; exact nth_mem (by rw [← HQ.out]; exact htq)
          have hgo : GoesR f (r ++ [nth nx t]) := hg.out.snoc HM.out (next_mem hnm).1 (by rw [← HLA.out]; exact (next_mem hnm).2)
          go_roundw
          case rel => exact ⟨k + 1, r ++ [nth nx t], by omega, by go_num, hgo, by rw [List.length_append, List.length_singleton, ← HMR.out]; omega, by rw [List.length_append, List.length_singleton, List.map_append, ← HMR.out]; exact hown', ((hb.trans (hbN.mono hbsz)).alloc (Nat.le_trans hbsz hbN.size) _).grown hgrow (by have := hbN.size; simp; omega) (fun j hj => (hown.lt j hj).1)⟩
          case measure => simp [intOf]; omega
      · go_wp2
        go_meet
        exact ⟨r, hg, by omega, hown, hb⟩
  case rest =>
    clear hst hb0
    obtain ⟨r, hg, hrl, hown, hb⟩ := hcut
    have hpos := hg.out.pos
    obtain ⟨rb, rc, rfl, hrb, hrs⟩ := ownsRow_form' hown hpos
    have h1 := (own_cell hown (r.length - 1) (by omega)).1
    rw [show nth r (r.length - 1) = lastOf r from rfl] at h1
    have hxr := intsAt_own hown
    have hw0 : walkN r = 0 := walkN_none hg.out.step
    have he0 : walkErr r = 0 := walkErr_zero hw0
    have hway := hg.out.way
    obtain ⟨l, hl⟩ : ∃ l, l = wayL f (lastOf r) := ⟨_, rfl⟩
    rw [← hl] at hway
    obtain ⟨m, hm⟩ : ∃ m, m = r.length := ⟨_, rfl⟩
    rw [← hm] at h1 hrl hown hpos hxr hway ⊢
    have HMR := Lib.hid hm; clear hm
    have HL := Lib.hid hl.symm; clear hl
    have HW0 := Lib.hid hw0
    have HE0 := Lib.hid he0
    have hlm : mayB (lastOf r) = true := List.all_eq_true.1 hg.out.may _ (nth_mem (by have := HMR.out; omega))
    have HLM := Lib.hid hlm
    clear hw0 he0 hlm
    obtain ⟨la, hla⟩ : ∃ la, la = lastOf r := ⟨_, rfl⟩
    rw [← hla] at h1 HL HLM
    have HLA := Lib.hid hla; clear hla
    obtain ⟨q, hq⟩ : ∃ q, q = l.length := ⟨_, rfl⟩
    rw [← hq] at hway
    have HQ := Lib.hid hq.symm; clear hq
    have hne : l ≠ [] := by intro h; have := HQ.out; rw [h] at this; simp at this; omega
    have HNE := Lib.hid hne; clear hne
    have hqm : (q : Int) ≤ m := by omega
    go_wp2_with (first
      | (go_at_call 12; refine (walk_yes12' _ _ _ 0 0 r _ hxr hg.out.may HW0.out HE0.out).mono ?_; rintro e w1 ⟨rfl, hs1⟩; have h2 := (hs1.cell _).trans h1)
      | (go_at_call 13; refine (way_some13 _ _ l _ HM.out HLM.out HL.out HNE.out).mono ?_; rintro e w2 ⟨q2, c2, rfl, hq2, hb2⟩; rw [HQ.out])
      | (go_at_call 14; refine (walk14 _ _ _ r _ ((hxr.still hs1).below hb2 (Nat.le_refl _))).mono ?_; rintro e w3 ⟨rfl, hb3⟩; rw [HW0.out])
      | (go_at_call 9; refine (known9 _).mono ?_; rintro e w4 ⟨rfl, hb4⟩))
    go_ret
    have hB := (hb.trans (hs1.below _)).trans (hb2.mono (Nat.le_trans hb.size (hs1.below 0).size))
    have hB2 := hB.trans (hb3.mono hB.size)
    exact ⟨rfl, hB2.trans (hb4.mono hB2.size)⟩
end Go.Proofs.Yteamiconagjpcaa
namespace Go.Proofs.Yteamiconagjpcaa
open Go Go.RowKit Coup
theorem law3 (f : Int) (p : Option Addr) (n c : Nat) (zs : List Int) (w : World) (hx : IntsAt w p n zs) : Calls Try.prog 3 #[.int .i64 f, .slice p n c] w fun e w' => e = .returned (.bool true) ∧ Below w.heap.size w w' := by
  rcases hm : mayB f with _ | _
  · exact law3_long f p n c w (.inl hm)
  · by_cases hn : 60 < n
    · exact law3_long f p n c w (.inr ⟨hm, hn⟩)
    · exact law3_main f p n c zs w hx hm (by omega)
end Go.Proofs.Yteamiconagjpcaa
