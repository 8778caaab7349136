/- The shortest walk, of the code: the walk through its text. -/
import Derived.Test.YteamiconagjpcaaH
import Derived.Deep.LoopGhost
import Derived.Deep.RegionHeld3
import Derived.Deep.DeepCutAuto
import Derived.Deep.CutBlock
namespace Go.Proofs.Yteamiconagjpcaa
open Go Go.RowKit Coup

theorem way_no13 (f t : Int) (w : World) (hm : (mayB f && mayB t) = false) : Calls Try.prog 13 #[.int .i64 f, .int .i64 t] w fun e w' => e = .returned (.tuple #[.slice none 0 0, .int .i64 2]) ∧ w = w' := by
  rcases hs : mayB f with _ | _
  · have HM := Lib.hid hs; clear hs hm
    go_enter Try.func13, Try.ntmps13
    go_wp2
    go_step3
    go_wp2_with (first | (go_at_call 17; refine (may17 _ _).mono ?_; rintro e w' ⟨rfl, rfl⟩; rw [HM.out]))
    rw [Exit.noGoto_ret]
    go_ret2
    exact ⟨rfl, rfl⟩
  · have ht : mayB t = false := by simpa [hs] using hm
    have HM := Lib.hid hs; clear hs hm
    have HT := Lib.hid ht; clear ht
    go_enter Try.func13, Try.ntmps13
    go_wp2
    go_step3
    go_wp2_with (first | (go_at_call 17; refine (may17 _ _).mono ?_; rintro e w' ⟨rfl, rfl⟩; first | rw [HM.out] | rw [HT.out]))
    rw [Exit.noGoto_ret]
    go_ret2
    exact ⟨rfl, rfl⟩

theorem ownsRow_form' {w : World} {base : Nat} {e : TypeId} {size : Nat} {v : Value} {n : Nat} {xs : List Value} (h : w.ownsRow base e size v n xs) (hn : 0 < n) :
    ∃ g cap, v = .slice (some ⟨g, 0, none⟩) n cap ∧ base ≤ g ∧ g < w.heap.size := by
  rcases h.2 with ⟨_, h0⟩ | ⟨g, cap, cur, hv, hb, hg, _⟩
  · omega
  · exact ⟨g, cap, hv, hb, (Array.getElem?_eq_some_iff.1 hg).1⟩

theorem cell_zero {w : World} {base : Nat} {e : TypeId} {g o n c : Nat} {x : Int} {xs : List Value} (h : ownsAt w base e 1 (.slice (some ⟨g, o, none⟩) n c) n (.int .i64 x :: xs)) : w.cell? ⟨g, o, none⟩ = some (.int .i64 x) := by
  have := h.cells 0 (.int .i64 x) rfl
  rwa [Addr.add_lit, Nat.add_zero] at this

theorem way_step {w wr W1 w2 : World} {v : Value} {n g2 o2 c2 pnn : Nat} {xs : List Value} {s : Int} {kvs0 : List (Int × Int)} {pn : Option Addr} {nx : List Int} {H : Nat}
    (hb : Below w.heap.size w wr) (hown : ownsAt wr (w.heap.size + 1) 22 1 v n xs) (h1 : Below wr.heap.size wr W1) (hg2 : W1.grownBy w2 v.ownBlock) (hat : v.ownBlock = some g2 ∨ g2 = H) (hH : wr.heap.size ≤ H)
    (hown2 : ownsAt w2 (w.heap.size + 1) 22 1 (.slice (some ⟨g2, o2, none⟩) (n + 1) c2) (n + 1) (xs ++ [.int .i64 s])) (hm3 : (setB w2 w.heap.size (imap .i64 kvs0)).heap[w.heap.size]? = some (imap .i64 kvs0))
    (hnx : IntsAt wr pn pnn nx) (hpd : ∀ a, pn = some a → w.heap.size < a.block ∧ v.ownBlock ≠ some a.block ∧ a.block < wr.heap.size) (kvs1 : List (Int × Int)) :
    Hid ((setB (setB w2 w.heap.size (imap .i64 kvs0)) w.heap.size (imap .i64 kvs1)).heap[w.heap.size]? = some (imap .i64 kvs1)) ∧
    ownsAt (setB (setB w2 w.heap.size (imap .i64 kvs0)) w.heap.size (imap .i64 kvs1)) (w.heap.size + 1) 22 1 (.slice (some ⟨g2, o2, none⟩) (n + 1) c2) (n + 1) (xs ++ [.int .i64 s]) ∧
    Below w.heap.size w (setB (setB w2 w.heap.size (imap .i64 kvs0)) w.heap.size (imap .i64 kvs1)) ∧
    IntsAt (setB (setB w2 w.heap.size (imap .i64 kvs0)) w.heap.size (imap .i64 kvs1)) pn pnn nx ∧
    Hid (∀ a, pn = some a → w.heap.size < a.block ∧ (Value.slice (some ⟨g2, o2, none⟩) (n + 1) c2).ownBlock ≠ some a.block ∧ a.block < (setB (setB w2 w.heap.size (imap .i64 kvs0)) w.heap.size (imap .i64 kvs1)).heap.size) := by
  have hs1 := h1.size
  have hs2 := hg2.size
  have hs0 := hb.size
  have hgw : ∀ i, i ≠ w.heap.size → (setB (setB w2 w.heap.size (imap .i64 kvs0)) w.heap.size (imap .i64 kvs1)).heap[i]? = w2.heap[i]? := fun i hi => (setB_other hi).trans (setB_other hi)
  refine ⟨setB_same hm3, ?_, ?_, ?_, ?_⟩
  · have hne : (Value.slice (some ⟨g2, o2, none⟩) (n + 1) c2).ownBlock = none ∨ (Value.slice (some ⟨g2, o2, none⟩) (n + 1) c2).ownBlock ≠ some w.heap.size := by
      right
      have := (hown2.lt g2 rfl).1
      simp only [Value.ownBlock, ne_eq, Option.some.injEq]
      omega
    exact (hown2.kept setB_grown hne).kept setB_grown hne
  · have h2 : Below w.heap.size w w2 := (hb.trans (h1.mono hs0)).grown hg2 (by omega) (fun j hj => by have := (hown.lt j hj).1; omega)
    refine (h2.grown (setB_grown (b := w.heap.size) (o := imap .i64 kvs0)) (by omega) (fun j hj => by cases hj; exact Nat.le_refl _)).grown (setB_grown (b := w.heap.size) (o := imap .i64 kvs1)) ?_ (fun j hj => by cases hj; exact Nat.le_refl _)
    have := (setB_grown (w := w2) (b := w.heap.size) (o := imap .i64 kvs0)).size
    omega
  · refine ⟨hnx.len, hnx.max, fun h0 => ?_⟩
    obtain ⟨b, off, hp, hlt, hc⟩ := hnx.at_ h0
    obtain ⟨d1, d2, -⟩ := hpd _ hp
    refine ⟨b, off, hp, ?_, fun k hk => ?_⟩
    · have a1 := (setB_grown (w := w2) (b := w.heap.size) (o := imap .i64 kvs0)).size
      have a2 := (setB_grown (w := setB w2 w.heap.size (imap .i64 kvs0)) (b := w.heap.size) (o := imap .i64 kvs1)).size
      omega
    · refine Eq.trans (World.cell?_of_block ?_) (hc k hk)
      show _ = wr.heap[b]?
      have d1' : w.heap.size < b := d1
      rw [hgw b (by omega), hg2.block b (by omega) (fun e => d2 e.symm), h1.block b hlt]
  · intro a ha
    obtain ⟨d1, d2, d3⟩ := hpd a ha
    refine ⟨d1, ?_, ?_⟩
    · simp only [Value.ownBlock, ne_eq, Option.some.injEq]
      intro he
      rcases hat with h | h
      · exact d2 (by rw [h, he])
      · omega
    · have a1 := (setB_grown (w := w2) (b := w.heap.size) (o := imap .i64 kvs0)).size
      have a2 := (setB_grown (w := setB w2 w.heap.size (imap .i64 kvs0)) (b := w.heap.size) (o := imap .i64 kvs1)).size
      omega

/-- What Way leaves: nothing and an error, or the walk. -/
def WayPost (w : World) (f t : Int) (e : Ending) (w' : World) : Prop :=
  ∃ q c, e = .returned (.tuple #[.slice q (wayL f t).length c, .int .i64 (if wayL f t = [] then 9 else 0)]) ∧ IntsAt w' q (wayL f t).length (wayL f t) ∧ Below w.heap.size w w'

theorem zero22 (w : World) : (zeroValue 22).run Try.prog w = .ok (.int .i64 0) w := by kernel_rfl

set_option maxHeartbeats 1000000 in
set_option maxRecDepth 100000 in
theorem way13 (f t : Int) (w : World) (hf : mayB f = true) (ht : mayB t = true) : Calls Try.prog 13 #[.int .i64 f, .int .i64 t] w (WayPost w f t) := by
  have HM := Lib.hid hf; clear hf
  have HT := Lib.hid ht; clear ht
  have hmm := @run_makeMap Try.prog
  have hins : (Instr.mapUpdate 45 (.map (some w.heap.size)) (.int .i64 f) (.int .i64 f)).run Try.prog (w.alloc (.map #[] 0)) = .ok () (w.alloc (imap .i64 [(f, f)])) := by
    have h := run_update_new (w := w.alloc (imap .i64 [])) (k := .i64) (kvs := []) Try.underlying45 Try.underlying22 (heap_alloc_new w _) (x := f) rfl f
    refine (show (Instr.mapUpdate 45 (.map (some w.heap.size)) (.int .i64 f) (.int .i64 f)).run Try.prog (w.alloc (.map #[] 0)) = _ from h).trans ?_
    rw [setB_alloc]; rfl
  go_enter Try.func13, Try.ntmps13
  go_wp2
  go_step3
  go_wp2_with (first | (go_at_call 17; refine (may17 _ _).mono ?_; rintro e w' ⟨rfl, rfl⟩; first | rw [HM.out] | rw [HT.out]))
  go_step3
  go_upto_block 0 with (fail)
  go_cut [7] (fun _ wx => wx.heap[w.heap.size]? = some (imap .i64 (cameL f t)) ∧ Below w.heap.size w wx)
  case first =>
    have hck := checkS_all HM.out HT.out
    rw [checkS, Bool.and_eq_true, decide_eq_true_eq] at hck
    have HNE := Lib.hid hck.1
    clear hck
    obtain ⟨i0, hi, hz0, hz1, hz2⟩ := info_parts info22
    go_wp2
    clear hins hmm
    go_loopg [7] 10 (fun g v wx => ∃ kvs q, Hid (outerS t g kvs q = cameL f t) ∧ Hid (wx.heap[w.heap.size]? = some (imap .i64 kvs)) ∧ ownsAt wx (w.heap.size + 1) 22 1 v q.length (q.map (.int .i64)) ∧ Below w.heap.size w wx ∧ q.length + 9 * g ≤ 100)
    case atStart =>
      refine ⟨[(f, f)], [f], rfl, ?_, ⟨rfl, .inr ⟨w.heap.size + 1, 0, 1, #[.int .i64 f], rfl, Nat.le_refl _, ?_, Nat.le_refl _, by decide, Nat.le_refl _, rfl⟩⟩, ((Below.refl _ _).alloc (Nat.le_refl _) _).alloc (by simp) _, Nat.le_of_ble_eq_true rfl⟩
      · exact (heap_alloc_old _ _ (by simp)).trans (heap_alloc_new _ _)
      · have := heap_alloc_new (w.alloc (imap .i64 [(f, f)])) (.cells #[.int .i64 f] 22)
        simpa using this
    case round =>
      obtain ⟨kvs, q, hrun, hmp, hown, hb, hroom⟩ := hrel
      cases gk with
      | zero => exact absurd (show cameL f t = [] from hrun.out.symm) HNE.out
      | succ g =>
        cases q with
        | nil =>
          have hk : kvs = cameL f t := hrun.out
          have HK := Lib.hid hk; clear hk
          obtain ⟨p, c, rfl⟩ := hown.form
          go_wp2
          go_meet
          exact ⟨by rw [← HK.out]; exact hmp.out, hb⟩
        | cons q0 qs =>
          obtain ⟨gq, oq, cq, rfl, hbq, hgl, hcap⟩ := hown.form' (by simp)
          have hq0 : wr.cell? ⟨gq, oq, none⟩ = some (.int .i64 q0) := by
            have := hown.cells 0 (.int .i64 q0) rfl
            rwa [Addr.add_lit, Nat.add_zero] at this
          have hl9 := nextTo_len q0 9
          obtain ⟨wo, rfl⟩ : ∃ wo : World, wo = wr := ⟨_, rfl⟩
          go_wp2_with (first
            | (go_at_call 10; refine (next10 _ _).mono ?_; rintro e w1 ⟨vn, rfl, hownN, hbN⟩; obtain ⟨pn, cn, hvn⟩ := ownsRow_form hownN; rw [hvn]; rw [hvn] at hownN; clear hvn))
          have hnx := intsAt_own hownN
          have hpd : ∀ a, pn = some a → w.heap.size < a.block ∧ (Value.slice (some ⟨gq, oq, none⟩) (qs.length + 1) cq).ownBlock ≠ some a.block ∧ a.block < w1.heap.size := by
            intro a ha
            have := hownN.lt a.block (by rw [ha]; rfl)
            refine ⟨by omega, ?_, this.2⟩
            simp only [Value.ownBlock, ne_eq, Option.some.injEq]
            omega
          have hmp1 : w1.heap[w.heap.size]? = some (imap .i64 kvs) := (hbN.block _ (by omega)).trans hmp.out
          have hown1 := hown.below hbN (fun k hk => (hown.lt k hk).2)
          have hb1 := hb.trans (hbN.mono hb.size)
          have HN := Lib.hid hl9
          obtain ⟨nx, hnxe⟩ : ∃ nx, nx = nextL q0 := ⟨_, rfl⟩
          change (nextL q0).length ≤ 9 at hl9
          rw [← hnxe] at hnx hl9 ⊢
          have HNX := Lib.hid hnxe
          clear hnxe hownN hbN hown hb hq0 hmp
          obtain ⟨n, hn⟩ : ∃ n, n = nx.length := ⟨_, rfl⟩
          rw [← hn] at hnx hl9 ⊢
          have HNN := Lib.hid hn
          clear hn
          have hroom' : qs.length + n + 9 * g ≤ 100 := by simp at hroom; omega
          clear hroom
          go_loopg [7, 39] n (fun gi v i wi => ∃ (k : Nat) (kvs' : List (Int × Int)) (q' : List Int), k + gi = n ∧ i = .int .i64 k ∧ Hid (innerS t q0 (nx.drop k) kvs' (q0 :: q') = innerS t q0 nx kvs (q0 :: qs)) ∧ Hid (wi.heap[w.heap.size]? = some (imap .i64 kvs')) ∧
            ownsAt wi (w.heap.size + 1) 22 1 v (q'.length + 1) ((q0 :: q').map (.int .i64)) ∧ Below w.heap.size w wi ∧ IntsAt wi pn n nx ∧ Hid (∀ a, pn = some a → w.heap.size < a.block ∧ v.ownBlock ≠ some a.block ∧ a.block < wi.heap.size) ∧ q'.length + gi + 9 * g ≤ 100)
          case atStart => exact ⟨0, kvs, qs, by omega, rfl, rfl, hmp1, hown1, hb1, hnx, hpd, by omega⟩
          case round =>
            clear hmp1 hown1 hb1 hnx hpd hroom'
            obtain ⟨k, kvs', q', hkn, rfl, hin, hmp, hown, hb, hnx, hpd, hroom'⟩ := hrel
            obtain ⟨gv, ov, cv, rfl, hbv, hgv, hcv⟩ := hown.form' (by simp)
            cases gk with
            | zero =>
              have hkk : k = nx.length := by have := HNN.out; omega
              have hin' : innerS t q0 nx kvs (q0 :: qs) = (false, kvs', q0 :: q') := by
                rw [← hin.out, hkk, List.drop_length]; rfl
              have hrun' : outerS t g kvs' q' = cameL f t := by
                have := hrun.out
                rw [outerS, ← HNX.out, hin'] at this
                exact this
              have HR := Lib.hid hrun'
              have htl := hown.tail
              have HT2 := Lib.hid htl
              clear hrun' hin' htl hkk
              by_cases hc1 : cv = 1
              · subst hc1
                obtain rfl : q' = [] := List.eq_nil_of_length_eq_zero (by omega)
                go_wp2
                go_roundg g
                case measure => omega
                case rel => exact ⟨kvs', [], HR.out, hmp, by have := HT2.out; rw [if_pos trivial] at this; exact this, hb, by omega⟩
              · go_wp2
                go_roundg g
                case measure => omega
                case rel => exact ⟨kvs', q', HR.out, hmp, by have := HT2.out; rw [if_neg hc1] at this; exact this, hb, by omega⟩
            | succ gi =>
              have hlt : k < n := by omega
              obtain ⟨-, -, hn3⟩ := hnx
              obtain ⟨bn, on_, rfl, hbn, hcn⟩ := hn3 (by omega)
              have h1 := hcn k hlt
              have hq0 : wr.cell? ⟨gv, ov, none⟩ = some (.int .i64 q0) := by
                have := hown.cells 0 (.int .i64 q0) rfl
                rwa [Addr.add_lit, Nat.add_zero] at this
              have hdr : nx.drop k = nth nx k :: nx.drop (k + 1) := by
                have := HNN.out
                rw [List.drop_eq_getElem_cons (by omega), nth, List.getD_eq_getElem?_getD, List.getElem?_eq_getElem (by omega)]
                rfl
              obtain ⟨s, hs⟩ : ∃ s, s = nth nx k := ⟨_, rfl⟩
              have hin' := hin.out
              rw [hdr, innerS, ← hs] at hin'
              rw [← hs] at h1
              clear hs hdr hin hn3
              have hpd0 := hpd.out ⟨bn, on_, none⟩ rfl
              rcases hl : lookI kvs' s with _ | y
              · rw [hl] at hin'
                have hlk := run_lookup_none (w := wr) true Try.underlying45 Try.underlying22 (zero22 _) hmp.out hl
                have HL := Lib.hid hl
                have HI := Lib.hid hin'
                clear hin' hl
                have HCN := Lib.hid hcn
                clear hcn
                have hsz := hb.size
                rcases hst : (s == t) with _ | _
                · go_wp2
                  clear hlk
                  go_region_held3 (fun w' => w'.cell? ⟨gv, ov, none⟩ = some (.int .i64 q0)) (first | assumption | go_keep)
                    (first
                      | (refine step_append_at _ (by rfl) _ _ 26 (by rfl) (w.heap.size + 1) 22 i0 (.int .i64 0) 1 8 Try.underlying26 hi hz0 hz1 hz2 (by rfl) (by decide) _ _ _ (by rfl) (hown.alloc _) ⟨wr.heap.size, 0, none⟩ 1 1 [.int .i64 s] (by rfl) rfl (cell_one_new _ _ _) (ints_oneCell .i64 [s]) (by omega) (by unfold maxLen; omega) (by omega) (by simp; omega) ?_; intro g2 o2 c2 w2 hown2 hg2 hat2 hlt2 hold2
                         have hS2 : w2.cell? ⟨gv, ov, none⟩ = some (.int .i64 q0) := cell_zero hold2
                         have hmp2 : w2.heap[w.heap.size]? = some (imap .i64 kvs') := by
                           rw [hg2.block _ (by simp; omega) (by simp [Value.ownBlock]; omega)]
                           exact (heap_alloc_old _ _ (by omega)).trans hmp.out
                         have hme := run_entry_new (k := .i64) Try.underlying45 Try.underlying22 (zero22 w2) hmp2 HL.out
                         have hmp3 := setB_same (o := imap .i64 (kvs' ++ [(s, 0)])) hmp2
                         have hS3 : (setB w2 w.heap.size (imap .i64 (kvs' ++ [(s, 0)]))).cell? ⟨gv, ov, none⟩ = some (.int .i64 q0) := (setB_cell rfl rfl hmp2 _).trans hS2
                         have hes := run_entryStore_new (t := 45) (P := Try.prog) hmp3 q0
                         have hS4 : (setB (setB w2 w.heap.size (imap .i64 (kvs' ++ [(s, 0)]))) w.heap.size (imap .i64 (kvs' ++ [(s, q0)]))).cell? ⟨gv, ov, none⟩ = some (.int .i64 q0) := (setB_cell rfl rfl hmp3 _).trans hS3
                         have HM2 := Lib.hid hmp2
                         have HM3 := Lib.hid hmp3
                         clear hmp2 hmp3))
                  have R := way_step hb hown (Below.alloc (Below.refl _ wr) (Nat.le_refl _) _).drew hg2 hat2 (by simp) hown2 HM3.out ⟨HNN.out, by unfold maxLen; omega, fun _ => ⟨bn, on_, rfl, hbn, HCN.out⟩⟩ hpd.out (kvs' ++ [(s, q0)])
                  clear hme hes hown2 hg2 hat2 hold2 HM2 HM3
                  go_wp2
                  go_roundg gi
                  case measure => omega
                  case rel => exact ⟨k + 1, kvs' ++ [(s, q0)], q' ++ [s], by omega, by go_num, by have := HI.out; simp only [hst] at this; exact this, R.1, by rw [List.length_append, List.length_singleton, ← List.cons_append, List.map_append]; exact R.2.1, R.2.2.1, R.2.2.2.1, R.2.2.2.2, by rw [List.length_append, List.length_singleton]; omega⟩
                · go_wp2
                  clear hlk
                  go_region_held3 (fun w' => w'.cell? ⟨gv, ov, none⟩ = some (.int .i64 q0)) (first | assumption | go_keep)
                    (first
                      | (refine step_append_at _ (by rfl) _ _ 26 (by rfl) (w.heap.size + 1) 22 i0 (.int .i64 0) 1 8 Try.underlying26 hi hz0 hz1 hz2 (by rfl) (by decide) _ _ _ (by rfl) (hown.alloc _) ⟨wr.heap.size, 0, none⟩ 1 1 [.int .i64 s] (by rfl) rfl (cell_one_new _ _ _) (ints_oneCell .i64 [s]) (by omega) (by unfold maxLen; omega) (by omega) (by simp; omega) ?_; intro g2 o2 c2 w2 hown2 hg2 hat2 hlt2 hold2
                         have hS2 : w2.cell? ⟨gv, ov, none⟩ = some (.int .i64 q0) := cell_zero hold2
                         have hmp2 : w2.heap[w.heap.size]? = some (imap .i64 kvs') := by
                           rw [hg2.block _ (by simp; omega) (by simp [Value.ownBlock]; omega)]
                           exact (heap_alloc_old _ _ (by omega)).trans hmp.out
                         have hme := run_entry_new (k := .i64) Try.underlying45 Try.underlying22 (zero22 w2) hmp2 HL.out
                         have hmp3 := setB_same (o := imap .i64 (kvs' ++ [(s, 0)])) hmp2
                         have hS3 : (setB w2 w.heap.size (imap .i64 (kvs' ++ [(s, 0)]))).cell? ⟨gv, ov, none⟩ = some (.int .i64 q0) := (setB_cell rfl rfl hmp2 _).trans hS2
                         have hes := run_entryStore_new (t := 45) (P := Try.prog) hmp3 q0
                         have hS4 : (setB (setB w2 w.heap.size (imap .i64 (kvs' ++ [(s, 0)]))) w.heap.size (imap .i64 (kvs' ++ [(s, q0)]))).cell? ⟨gv, ov, none⟩ = some (.int .i64 q0) := (setB_cell rfl rfl hmp3 _).trans hS3
                         have HM2 := Lib.hid hmp2
                         have HM3 := Lib.hid hmp3
                         clear hmp2 hmp3))
                  have R := way_step hb hown (Below.alloc (Below.refl _ wr) (Nat.le_refl _) _).drew hg2 hat2 (by simp) hown2 HM3.out ⟨HNN.out, by unfold maxLen; omega, fun _ => ⟨bn, on_, rfl, hbn, HCN.out⟩⟩ hpd.out (kvs' ++ [(s, q0)])
                  clear hme hes hown2 hg2 hat2 hold2 HM2 HM3
                  have hF : cameL f t = kvs' ++ [(s, q0)] := by
                    have h1 := HI.out
                    simp only [hst] at h1
                    have h2 := hrun.out
                    rw [outerS, ← HNX.out, ← h1] at h2
                    exact h2.symm
                  have HF := Lib.hid hF
                  clear hF
                  go_wp2
                  go_meet
                  exact ⟨by rw [HF.out]; exact R.1, R.2.2.1⟩
              · rw [hl] at hin'
                have HI := Lib.hid hin'
                have hlk := run_lookup_some (w := wr) true Try.underlying45 Try.underlying22 hmp.out hl
                clear hin' hl
                have HCN := Lib.hid hcn
                clear hcn
                go_wp2
                go_roundg gi
                case measure => omega
                case rel => exact ⟨k + 1, kvs', q', by omega, by go_num, HI.out, hmp, hown, hb, ⟨HNN.out, by unfold maxLen; omega, fun _ => ⟨bn, on_, rfl, hbn, HCN.out⟩⟩, hpd, by omega⟩
  case rest =>
    clear hins hmm
    obtain ⟨hmap, hb⟩ := hcut
    have hck := checkS_all HM.out HT.out
    rw [checkS, Bool.and_eq_true] at hck
    obtain ⟨-, hck⟩ := hck
    rcases hl : lookI (cameL f t) t with _ | y
    · rw [hl] at hck
      have hw : wayL f t = [] := by simpa using hck
      have hlk := run_lookup_none (w := wc) true Try.underlying45 Try.underlying22 (zero22 _) hmap hl
      have HW := Lib.hid hw
      clear hck hl hmap hw
      go_wp2
      try rw [Exit.noGoto_ret]
      go_ret2
      refine ⟨none, 0, ?_, ?_, hb⟩
      · rw [HW.out]; rfl
      · rw [HW.out]; exact ⟨rfl, Nat.zero_le _, fun h => absurd h (Nat.lt_irrefl 0)⟩
    · rw [hl] at hck
      simp only [Bool.and_eq_true, decide_eq_true_eq] at hck
      obtain ⟨⟨hb1, hb2⟩, hb3⟩ := hck
      have hlk := run_lookup_some (w := wc) true Try.underlying45 Try.underlying22 hmap hl
      have HB1 := Lib.hid hb1
      have HB2 := Lib.hid hb2
      have HB3 := Lib.hid hb3
      have HMAP := Lib.hid hmap
      clear hl hmap hb1 hb2 hb3
      obtain ⟨i0, hi, hz0, hz1, hz2⟩ := info_parts info22
      have hsz : w.heap.size + 1 ≤ wc.heap.size := (Array.getElem?_eq_some_iff.1 HMAP.out).1
      go_wp2
      clear hlk
      go_loopg [1, 14] 10 (fun g x v wx => ∃ X l, x = .int .i64 X ∧ Hid (backS (cameL f t) f g X l = backL f t) ∧ wx.ownsRow (w.heap.size + 1) 22 1 v l.length (l.map (.int .i64)) ∧ Hid (wx.heap[w.heap.size]? = some (imap .i64 (cameL f t))) ∧ Below w.heap.size w wx ∧ l.length + g ≤ 11)
      case atStart =>
        refine ⟨t, [t], rfl, rfl, ⟨rfl, .inr ⟨wc.heap.size, 1, #[.int .i64 t], rfl, hsz, heap_alloc_new _ _, Nat.le_refl _, by decide, rfl, rfl⟩⟩, ?_, hb.alloc hb.size _, Nat.le_refl _⟩
        exact (heap_alloc_old _ _ (by omega)).trans HMAP.out
      case round =>
        clear hb
        obtain ⟨X, l, rfl, hbk, hown, hmp, hb, hlen⟩ := hrel
        cases gk with
        | zero => exact absurd (show backL f t = [] from (hbk.out).symm) HB1.out
        | succ g =>
          rcases hx : (X != f) with _ | _
          · have hl : l = backL f t := by have := hbk.out; rwa [backS, hx, if_neg (by simp)] at this
            have HL := Lib.hid hl; clear hl
            obtain ⟨p, c, rfl⟩ := ownsRow_form hown
            have hne : 0 < l.length := List.length_pos_iff.2 (by rw [HL.out]; exact HB1.out)
            obtain ⟨gb, cap, hv, hbg, hgl⟩ := ownsRow_form' hown hne
            simp only [Value.slice.injEq] at hv
            obtain ⟨rfl, -, rfl⟩ := hv
            have HO := Lib.hid hown; clear hown
            go_wp2_with (first
              | (go_at_call 28; refine (reverse28 _ _ _ (w.heap.size + 1) l _ HO.out (by omega) hbg).mono ?_; rintro e w1 ⟨rfl, hown1, hb1⟩))
            try rw [Exit.noGoto_ret]
            go_ret2
            have hr : l.reverse = wayL f t := by rw [HL.out]; exact HB2.out
            have hln : l.length = (wayL f t).length := by rw [← hr, List.length_reverse]
            rw [hr, hln] at hown1
            refine ⟨some ⟨gb, 0, none⟩, c, ?_, intsAt_own hown1, hb.trans (hb1.mono (by omega))⟩
            rw [if_neg HB3.out, ← hln]
            rfl
          · have hk := hbk.out
            rw [backS, hx, if_pos rfl] at hk
            rcases hl : lookI (cameL f t) X with _ | y
            · rw [hl] at hk; exact absurd hk.symm HB1.out
            · rw [hl] at hk
              have HK := Lib.hid hk
              have hlk := run_lookup_some (w := wr) false Try.underlying45 Try.underlying22 hmp.out hl
              clear hk hl
              have hs2 := hb.size
              have hs3 : w.heap.size + 1 ≤ wr.heap.size := (Array.getElem?_eq_some_iff.1 hmp.out).1
              go_wp2_with (first
                | (at_builtin; refine wpList_append_own _ rfl _ _ 26 rfl (w.heap.size + 1) 22 i0 (.int .i64 0) 1 8 Try.underlying26 hi hz0 hz1 hz2 rfl (by decide) _ _ _ rfl (hown.alloc _) ⟨wr.heap.size, 0, none⟩ 1 1 [.int .i64 y] rfl rfl (cell_one_new _ _ _) (ints_oneCell .i64 [y]) (by unfold maxLen; omega) (by omega) (by simp; omega) ?_; intro v' w1 hown' hgrow _))
              go_roundg g
              case measure => omega
              case rel =>
                refine ⟨y, l ++ [y], rfl, HK.out, by rw [List.length_append, List.map_append]; exact hown', ?_, (hb.alloc hs2 _).grown hgrow (by simp; omega) (fun j hj => Nat.le_trans (Nat.le_succ _) (hown.lt j hj).1), by rw [List.length_append]; simp; omega⟩
                rw [hgrow.block _ (by simp; omega) (fun h => by have := (hown.lt _ h.symm).1; omega)]
                exact (heap_alloc_old _ _ (by omega)).trans hmp.out
end Go.Proofs.Yteamiconagjpcaa
