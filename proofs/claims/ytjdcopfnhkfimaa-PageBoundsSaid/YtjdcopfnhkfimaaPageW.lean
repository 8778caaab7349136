/- The law of room. -/
import Derived.Test.YtjdcopfnhkfimaaPageV
namespace Go.Proofs.Ytjdcopfnhkfimaa
open Go Go.RowKit Coup

theorem free_none {S : List (Option (List UInt8))} (h : freeV S < S.length) : S[freeV S]? = some none := by
  have h1 := List.findIdx_getElem (p := fun s : Option (List UInt8) => s.isNone) (xs := S) (w := h)
  rw [List.getElem?_eq_getElem h]
  congr 1
  exact Option.isNone_iff_eq_none.1 h1
theorem lenS_setS : ∀ {S : List (Option (List UInt8))} {i : Nat} {r : List UInt8}, S[i]? = some none → lenS (S.set i (some r)) = lenS S + r.length
  | [], i, r, h => by simp at h
  | s :: S, 0, r, h => by
    have : s = none := by simpa using h
    subst this
    simp [lenS, bod]; omega
  | s :: S, i + 1, r, h => by
    simp only [List.set_cons_succ, lenS]
    rw [lenS_setS (S := S) (i := i) (r := r) (by simpa using h)]; omega
theorem with_size (V : View) (r : List UInt8) : sizeV (withV V (freeV V.slots) r) = sizeV V + r.length + (if freeV V.slots = V.slots.length then 4 else 0) := by
  have hle := freeV_le V.slots
  unfold sizeV withV setS
  dsimp only
  by_cases h : freeV V.slots = V.slots.length
  · rw [if_pos h, if_pos h, lenS_app, List.length_append]; simp [lenS, bod]; omega
  · rw [if_neg h, if_neg h, List.length_set, lenS_setS (free_none (by omega))]; omega
theorem room_iff (V : View) (r : List UInt8) : layE V r = 0 ↔ (r.length : Int) ≤ roomV V := by
  have h := with_size V r
  unfold layE withE roomV
  rw [h]
  by_cases h1 : freeV V.slots = V.slots.length
  · rw [if_pos h1, if_pos h1]
    split
    · constructor
      · intro h2; cases h2
      · intro h2; omega
    · split
      · constructor
        · intro h2; cases h2
        · intro h2; omega
      · constructor
        · intro _; omega
        · intro _; rfl
  · rw [if_neg h1, if_neg h1]
    split
    · constructor
      · intro h2; cases h2
      · intro h2; omega
    · split
      · constructor
        · intro h2; cases h2
        · intro h2; omega
      · constructor
        · intro _; omega
        · intro _; rfl
theorem setS_at {S : List (Option (List UInt8))} {i : Nat} {r : List UInt8} (h : i ≤ S.length) : (setS S i r)[i]? = some (some r) := by
  unfold setS
  split
  · rename_i h1; rw [h1, List.getElem?_append_right (Nat.le_refl _), Nat.sub_self]; rfl
  · rw [List.getElem?_set_self (by omega)]
theorem take_back {V : View} (hV : Good V) (r : List UInt8) : wtV (withV V (freeV V.slots) r) (freeV V.slots) = V := by
  have hle := freeV_le V.slots
  have key : trimS ((setS V.slots (freeV V.slots) r).set (freeV V.slots) none) = V.slots := by
    unfold setS
    by_cases h : freeV V.slots = V.slots.length
    · rw [if_pos h, h, List.set_append_right _ _ (Nat.le_refl _), Nat.sub_self]
      show trimS (V.slots ++ [none]) = _
      rw [trimS_no, trimS_id hV.last]
    · rw [if_neg h, List.set_set]
      have h2 := free_none (S := V.slots) (by omega)
      rw [show V.slots.set (freeV V.slots) none = V.slots from ?_, trimS_id hV.last]
      obtain ⟨h3, h4⟩ := List.getElem?_eq_some_iff.1 h2
      conv => lhs; rw [← h4]
      exact List.set_getElem_self h3
  unfold wtV withV
  dsimp only
  rw [key]
theorem layE_le (V : View) (r : List UInt8) : layE V r = 0 ∨ (layE V r = 3 ∧ 400 < r.length) ∨ (layE V r = 8 ∧ r.length ≤ 400) := by
  unfold layE withE
  split
  · right; left; exact ⟨rfl, by omega⟩
  · split
    · right; right; exact ⟨rfl, by omega⟩
    · left; rfl
theorem good_lay {V : View} (hV : Good V) {r : List UInt8} (h : layE V r = 0) : Good (withV V (freeV V.slots) r) := by
  unfold layE at h
  split at h
  · cases h
  · unfold withE at h; split at h
    · cases h
    · exact hV.withV (freeV_le _) (by omega) (by omega)
theorem zeros_make (m : Nat) : List.replicate (m * 1) (Value.int .u8 0) = bv (List.replicate m 0) := by
  rw [Nat.mul_one, bv, List.map_replicate]; rfl
set_option maxHeartbeats 2000000 in
theorem roomC (k : Int) (p : Option Addr) (n cp : Nat) (R : List ActT) (m : Int) (w : World) (h : ActsAt w p n R) :
    Calls Try.prog 4 [.int .i64 k, .slice p n cp, .int .i64 m].toArray w (Ret fun v w' => v = .bool true ∧ Below w.heap.size w w') := by
  have hB := Below.refl w.heap.size w
  have hml : maxLen = 9223372036854775807 := by decide
  obtain ⟨Z, hzz, hzb, hzl⟩ := zeroQ
  refine calls_W (fn := Try.f4) (rs := [.tmp 6]) (n := 91) Try.func4 rfl rfl Try.ntmps4 (by kernel_rfl) rfl ?_
  refine W_seq ?_
  refine W_region ?_
  refine WR_val rfl (rn_assign) ?_
  refine WR_nil ?_
  refine thenN ?_
  refine W_seq ?_
  refine W_seq ?_
  refine W_region ?_
  refine WR_val rfl (rn_move) ?_
  refine WR_ent rfl (rn_call (by kernel_rfl) rfl) (few14 p n cp 60 R w (h.below hB) (by omega)) ?_
  rintro _ w15 ⟨Bf, rfl, hfew, hb15⟩
  replace hB := hB.acc hb15
  refine WR_val rfl (rn_not rfl) ?_
  refine WR_val rfl (rn_move) ?_
  refine WR_partnb 17 rfl (fun h0 => ?_) (fun h0 => ?_)
  ·
    refine WR_no rfl rfl ?_
    refine WR_no rfl rfl ?_
    refine WR_val rfl (rn_pick_t rfl) ?_
    refine WR_val rfl (rn_move) ?_
    refine WR_no rfl rfl ?_
    refine WR_no rfl rfl ?_
    refine WR_val rfl (rn_pick_t rfl) ?_
    refine WR_val rfl (rn_move) ?_
    refine WR_no rfl rfl ?_
    refine WR_no rfl rfl ?_
    refine WR_val rfl (rn_pick_t rfl) ?_
    refine WR_val rfl (rn_move) ?_
    refine WR_no rfl rfl ?_
    refine WR_no rfl rfl ?_
    refine WR_val rfl (rn_pick_t rfl) ?_
    refine WR_nil ?_
    refine thenN ?_
    refine W_t rfl ?_
    refine W_seq ?_
    refine W_region ?_
    refine WR_ent rfl (rn_call (by kernel_rfl) rfl) (known13 w15) ?_
    rintro _ w33 ⟨rfl, hb33⟩
    replace hB := hB.acc hb33
    refine WR_val rfl (rn_assign) ?_
    refine WR_nil ?_
    refine thenN ?_
    refine W_ret ?_
    refine thenR ?_
    refine ret_ret [_] ⟨rfl, trivial⟩ ?_
    exact ⟨rfl, hB⟩
  ·
    refine WR_yes rfl ?_
    refine WR_val rfl (rn_move) ?_
    refine WR_yes rfl ?_
    refine WR_val rfl (rn_lss rfl rfl) ?_
    refine WR_val rfl (rn_pick_f rfl) ?_
    refine WR_val rfl (rn_move) ?_
    refine WR_part 21 rfl (fun h1 => ?_) (fun h1 => ?_)
    ·
      refine WR_no rfl rfl ?_
      refine WR_no rfl rfl ?_
      refine WR_val rfl (rn_pick_t rfl) ?_
      refine WR_val rfl (rn_move) ?_
      refine WR_no rfl rfl ?_
      refine WR_no rfl rfl ?_
      refine WR_val rfl (rn_pick_t rfl) ?_
      refine WR_val rfl (rn_move) ?_
      refine WR_no rfl rfl ?_
      refine WR_no rfl rfl ?_
      refine WR_val rfl (rn_pick_t rfl) ?_
      refine WR_nil ?_
      refine thenN ?_
      refine W_t rfl ?_
      refine W_seq ?_
      refine W_region ?_
      refine WR_ent rfl (rn_call (by kernel_rfl) rfl) (known13 w15) ?_
      rintro _ w33 ⟨rfl, hb33⟩
      replace hB := hB.acc hb33
      refine WR_val rfl (rn_assign) ?_
      refine WR_nil ?_
      refine thenN ?_
      refine W_ret ?_
      refine thenR ?_
      refine ret_ret [_] ⟨rfl, trivial⟩ ?_
      exact ⟨rfl, hB⟩
    ·
      refine WR_yes rfl ?_
      refine WR_val rfl (rn_move) ?_
      refine WR_yes rfl ?_
      refine WR_val rfl (rn_gtr rfl rfl) ?_
      refine WR_val rfl (rn_pick_f rfl) ?_
      refine WR_val rfl (rn_move) ?_
      refine WR_part 25 rfl (fun h2 => ?_) (fun h2 => ?_)
      ·
        refine WR_no rfl rfl ?_
        refine WR_no rfl rfl ?_
        refine WR_val rfl (rn_pick_t rfl) ?_
        refine WR_val rfl (rn_move) ?_
        refine WR_no rfl rfl ?_
        refine WR_no rfl rfl ?_
        refine WR_val rfl (rn_pick_t rfl) ?_
        refine WR_nil ?_
        refine thenN ?_
        refine W_t rfl ?_
        refine W_seq ?_
        refine W_region ?_
        refine WR_ent rfl (rn_call (by kernel_rfl) rfl) (known13 w15) ?_
        rintro _ w33 ⟨rfl, hb33⟩
        replace hB := hB.acc hb33
        refine WR_val rfl (rn_assign) ?_
        refine WR_nil ?_
        refine thenN ?_
        refine W_ret ?_
        refine thenR ?_
        refine ret_ret [_] ⟨rfl, trivial⟩ ?_
        exact ⟨rfl, hB⟩
      ·
        refine WR_yes rfl ?_
        refine WR_val rfl (rn_move) ?_
        refine WR_yes rfl ?_
        refine WR_val rfl (rn_lss rfl rfl) ?_
        refine WR_val rfl (rn_pick_f rfl) ?_
        refine WR_val rfl (rn_move) ?_
        refine WR_part 29 rfl (fun h3 => ?_) (fun h3 => ?_)
        ·
          refine WR_no rfl rfl ?_
          refine WR_no rfl rfl ?_
          refine WR_val rfl (rn_pick_t rfl) ?_
          refine WR_nil ?_
          refine thenN ?_
          refine W_t rfl ?_
          refine W_seq ?_
          refine W_region ?_
          refine WR_ent rfl (rn_call (by kernel_rfl) rfl) (known13 w15) ?_
          rintro _ w33 ⟨rfl, hb33⟩
          replace hB := hB.acc hb33
          refine WR_val rfl (rn_assign) ?_
          refine WR_nil ?_
          refine thenN ?_
          refine W_ret ?_
          refine thenR ?_
          refine ret_ret [_] ⟨rfl, trivial⟩ ?_
          exact ⟨rfl, hB⟩
        ·
          refine WR_yes rfl ?_
          refine WR_val rfl (rn_move) ?_
          refine WR_yes rfl ?_
          refine WR_val rfl (rn_gtr rfl rfl) ?_
          refine WR_val rfl (rn_pick_f rfl) ?_
          refine WR_nil ?_
          refine thenN ?_
          refine W_ifp rfl (fun h4 => ?_) (fun h4 => ?_)
          ·
            refine W_seq ?_
            refine W_region ?_
            refine WR_ent rfl (rn_call (by kernel_rfl) rfl) (known13 w15) ?_
            rintro _ w33 ⟨rfl, hb33⟩
            replace hB := hB.acc hb33
            refine WR_val rfl (rn_assign) ?_
            refine WR_nil ?_
            refine thenN ?_
            refine W_ret ?_
            refine thenR ?_
            refine ret_ret [_] ⟨rfl, trivial⟩ ?_
            exact ⟨rfl, hB⟩
          ·
            obtain ⟨k, rfl⟩ : ∃ k' : Nat, k = k' := ⟨k.toNat, by omega⟩
            obtain ⟨m, rfl⟩ : ∃ m' : Nat, m = m' := ⟨m.toNat, by omega⟩
            have hBt : Bf = true := by cases Bf with | true => rfl | false => cases h0
            obtain ⟨hn, hR⟩ := hfew hBt
            have hgp := playV_good R ⟨k, 0, []⟩ (good_new (by omega)) hR
            have hPl := fun w' h' => plays15 k p n cp R w' (by omega) h' hR (by omega)
            obtain ⟨V, hVd⟩ : ∃ V, playV ⟨k, 0, []⟩ R = V := ⟨_, rfl⟩
            rw [hVd] at hgp hPl
            have hV := hgp.1
            have hbl := bytes_len hV
            obtain ⟨r, hr⟩ : ∃ r : List UInt8, List.replicate m 0 = r := ⟨_, rfl⟩
            have hrl : r.length = m := by rw [← hr, List.length_replicate]
            have hL : ∀ pr cr w', SlAt w' pr m 1 (bv r) → Calls Try.prog 8 [.agg (bv (bytesV V)).toArray, .slice pr m cr].toArray w' (Ret fun v w2 => v = .tuple #[.agg (bv (layP V r)).toArray, .int .i64 (if layE V r = 0 then freeV V.slots else 0 : Nat), .int .i64 (layE V r : Nat)] ∧ Below w'.heap.size w' w2) := fun pr cr w' h' => by
              have := lay8 V pr cr r w' hV (by rw [hrl]; exact h')
              rw [hrl] at this
              exact this
            have hRm := fun w' => room10 V w' hV
            have hri := room_iff V r
            have hle := layE_le V r
            have hpl := layP_len V r
            rw [hrl] at hri hle
            have hTk : layE V r = 0 → ∀ w', Calls Try.prog 11 [.agg (bv (layP V r)).toArray, .int .i64 (freeV V.slots : Nat)].toArray w' (Ret fun v w2 => v = .tuple #[.agg (bv (bytesV V)).toArray, .int .i64 0] ∧ Below w'.heap.size w' w2) := fun h0 w' => by
              have h1 := take11 (withV V (freeV V.slots) r) (freeV V.slots : Nat) w' (good_lay hV h0)
              have h2 : hasV (withV V (freeV V.slots) r).slots (freeV V.slots : Nat) = true := hasV_of (setS_at (freeV_le _))
              rw [takeP, h2, if_pos rfl, Int.toNat_natCast, take_back hV r] at h1
              rw [layP, if_pos h0]
              exact h1
            obtain ⟨F, hF⟩ : ∃ F, (if layE V r = 0 then freeV V.slots else 0) = F := ⟨_, rfl⟩
            obtain ⟨P, hP⟩ : ∃ P, layP V r = P := ⟨_, rfl⟩
            obtain ⟨Q, hQ⟩ : ∃ Q, bytesV V = Q := ⟨_, rfl⟩
            obtain ⟨E, hE⟩ : ∃ E, layE V r = E := ⟨_, rfl⟩
            have hTk2 : E = 0 → ∀ w', Calls Try.prog 11 [.agg (bv P).toArray, .int .i64 (F : Nat)].toArray w' (Ret fun v w2 => v = .tuple #[.agg (bv Q).toArray, .int .i64 0] ∧ Below w'.heap.size w' w2) := fun h0 => by
              rw [← hP, ← hQ, ← hF, if_pos (by rw [hE]; exact h0)]
              exact hTk (by rw [hE]; exact h0)
            rw [hF, hP, hQ, hE] at hL
            rw [hQ] at hPl hRm hbl
            rw [hE] at hri hle
            rw [hP] at hpl
            clear hTk hF hP hQ hE
            refine W_skip ?_
            refine thenN ?_
            refine W_seq ?_
            refine W_region ?_
            refine WR_val rfl (rn_move) ?_
            refine WR_val rfl (rn_move) ?_
            refine WR_ent rfl (rn_call (by kernel_rfl) rfl) (hPl w15 (h.below hB)) ?_
            rintro _ w37 ⟨rfl, hb37⟩
            replace hB := hB.acc hb37
            refine WR_val rfl (rn_move) ?_
            refine WR_val rfl (rn_extract rfl rfl) ?_
            refine WR_val rfl (rn_extract rfl rfl) ?_
            refine WR_mk rfl (mk_alloc (List.replicate 512 (Value.int .u8 0)) (by kernel_rfl) (fun g7 w7 hg7 hr7 hb7 => ?_))
            have ge_hB_g7 := Nat.le_trans hB.size hg7
            replace hB := hB.acc hb7
            rw [hzb] at hr7
            refine WR_sk rfl (sk_storeA 512 (bv Q) rfl rfl hr7 (by kernel_rfl) (by first | assumption | (simp; done) | (simp [bv_length, *]; done)) (by first | assumption | (simp; done) | (simp [bv_length, *]; done) | rfl) (by first | exact bv_one _ | assumption | (simp [Value.oneCell']; done)) (fun w901 hr7 ho901 => ?_))
            replace hB := ho901.below hB ge_hB_g7
            refine WR_val rfl (rn_assign) ?_
            refine WR_nil ?_
            refine thenN ?_
            refine W_seq ?_
            refine W_seq ?_
            refine W_region ?_
            refine WR_val rfl (rn_move) ?_
            refine WR_val rfl (rn_not rfl) ?_
            refine WR_nil ?_
            refine thenN ?_
            refine W_fnb rfl (rfl) ?_
            refine W_skip ?_
            refine thenN ?_
            refine W_cut (fun g9 : Nat => [(7, .pointer (some ⟨g7, 0, none⟩)), (9, .pointer (some ⟨g9, 0, none⟩)), (10, .int .i64 (F : Nat)), (11, .int .i64 (E : Nat)), (0, .int .i64 (k : Int)), (2, .int .i64 (m : Int))]) (fun g9 w' => row w' g7 (bv Q) 23 ∧ row w' g9 (bv P) 23 ∧ Below w.heap.size w w') ?_ ?_
            ·
              refine W_draw' [] (by kernel_rfl) ?_
              intro w902 hb902 hS902
              replace hr7 := hr7.new hb902
              replace hB := hB.acc hb902
              have hr7_d902 := hr7
              have hB_d902 := hB
              refine WA_take 0 (by kernel_rfl) rfl (fun w' hS' => rn_load rfl (Ld.rowA (k := 512) (hr7_d902.kpd hS' (by first | (simp; done) | (simp; omega) | (simp [*]; done))) (by kernel_rfl) (by kernel_rfl) (by first | (simp; done) | (simp [bv_length, *]; done) | assumption))) ?_
              refine WA_take 1 (by kernel_rfl) rfl (fun _ _ => rn_move) ?_
              refine WA_two 2 8 (by kernel_rfl) ?_ ?_
              ·
                refine WO_mk rfl rfl (mk_make (e := 5) m [.int .u8 0] 1 1 (.int .u8 0) (by kernel_rfl) (by kernel_rfl) ⟨_, rfl, rfl⟩ ⟨_, rfl, rfl⟩ (by simp) (by simp) (by omega) (by omega) (fun g45 w45 hg45 hr45 hb45 => ?_))
                have hS903 := hS902.add0 hb45
                refine ⟨hS903, ?_⟩
                have ge_hS902_g45 := Nat.le_trans hS902.size hg45
                have ge_hB_g45 := Nat.le_trans hB.size hg45
                have lt_g7_g45 : g7 < g45 := Nat.lt_of_lt_of_le hr7.lt hg45
                replace hr7 := hr7.new hb45
                replace hB := hB.acc hb45
                rw [zeros_make, hr] at hr45
                refine WA_two 3 8 (by kernel_rfl) ?_ ?_
                ·
                  refine WO_ent rfl rfl (rn_call (by kernel_rfl) rfl) (hL _ _ w45 (hr45.slA (m := m) (sz := 1) (by rw [bv_length, hrl, Nat.mul_one]) (by omega))) ?_
                  rintro _ w46 ⟨rfl, hb46⟩
                  have hS904 := hS903.add0 hb46
                  refine ⟨hS904, ?_⟩
                  replace hr7 := hr7.new hb46
                  replace hr45 := hr45.new hb46
                  replace hB := hB.acc hb46
                  refine WA_take 4 (by kernel_rfl) rfl (fun _ _ => rn_move) ?_
                  refine WA_take 5 (by kernel_rfl) rfl (fun _ _ => rn_extract rfl rfl) ?_
                  refine WA_take 6 (by kernel_rfl) rfl (fun _ _ => rn_extract rfl rfl) ?_
                  refine WA_take 7 (by kernel_rfl) rfl (fun _ _ => rn_extract rfl rfl) ?_
                  refine WA_one 8 (by kernel_rfl) ?_
                  refine WO_mk rfl rfl (mk_alloc (List.replicate 512 (Value.int .u8 0)) (by kernel_rfl) (fun g9 w9 hg9 hr9 hb9 => ?_))
                  have hS905 := hS904.add0 hb9
                  refine ⟨hS905, ?_⟩
                  have ge_hS904_g9 := Nat.le_trans hS904.size hg9
                  have ge_hB_g9 := Nat.le_trans hB.size hg9
                  have lt_g7_g9 : g7 < g9 := Nat.lt_of_lt_of_le hr7.lt hg9
                  have lt_g45_g9 : g45 < g9 := Nat.lt_of_lt_of_le hr45.lt hg9
                  replace hr7 := hr7.new hb9
                  replace hr45 := hr45.new hb9
                  replace hB := hB.acc hb9
                  rw [hzb] at hr9
                  refine WA_one 9 (by kernel_rfl) ?_
                  refine WO_sk rfl rfl (sk_storeA 512 (bv P) rfl rfl hr9 (by kernel_rfl) (by first | assumption | (simp; done) | (simp [bv_length, *]; done)) (by first | assumption | (simp; done) | (simp [bv_length, *]; done) | rfl) (by first | exact bv_one _ | assumption | (simp [Value.oneCell']; done)) (fun w907 hr9 ho907 => ?_))
                  have hS906 := hS905.add1 ho907 (by first | (left; omega) | (right; simp; done) | (right; simp; omega))
                  refine ⟨hS906, ?_⟩
                  replace hr7 := hr7.only ho907 (Nat.ne_of_lt lt_g7_g9)
                  replace hr45 := hr45.only ho907 (Nat.ne_of_lt lt_g45_g9)
                  replace hB := ho907.below hB ge_hB_g9
                  refine WA_take 10 (by kernel_rfl) rfl (fun _ _ => rn_assign) ?_
                  refine WA_take 11 (by kernel_rfl) rfl (fun _ _ => rn_assign) ?_
                  refine WA_done (by kernel_rfl) ?_
                  refine loopN ⟨g9, ⟨rfl, rfl, rfl, rfl, rfl, rfl, rfl⟩, hr7, hr9, hB⟩
                ·
                  refine WO_mk rfl rfl (mk_alloc (List.replicate 512 (Value.int .u8 0)) (by kernel_rfl) (fun g9 w9 hg9 hr9 hb9 => ?_))
                  have hS908 := hS903.add0 hb9
                  refine ⟨hS908, ?_⟩
                  have ge_hS903_g9 := Nat.le_trans hS903.size hg9
                  have ge_hB_g9 := Nat.le_trans hB.size hg9
                  have lt_g7_g9 : g7 < g9 := Nat.lt_of_lt_of_le hr7.lt hg9
                  have lt_g45_g9 : g45 < g9 := Nat.lt_of_lt_of_le hr45.lt hg9
                  replace hr7 := hr7.new hb9
                  replace hr45 := hr45.new hb9
                  replace hB := hB.acc hb9
                  rw [hzb] at hr9
                  refine WA_one 3 (by kernel_rfl) ?_
                  refine WO_ent rfl rfl (rn_call (by kernel_rfl) rfl) (hL _ _ w9 (hr45.slA (m := m) (sz := 1) (by rw [bv_length, hrl, Nat.mul_one]) (by omega))) ?_
                  rintro _ w46 ⟨rfl, hb46⟩
                  have hS909 := hS908.add0 hb46
                  refine ⟨hS909, ?_⟩
                  replace hr7 := hr7.new hb46
                  replace hr45 := hr45.new hb46
                  replace hr9 := hr9.new hb46
                  replace hB := hB.acc hb46
                  refine WA_take 4 (by kernel_rfl) rfl (fun _ _ => rn_move) ?_
                  refine WA_take 5 (by kernel_rfl) rfl (fun _ _ => rn_extract rfl rfl) ?_
                  refine WA_take 6 (by kernel_rfl) rfl (fun _ _ => rn_extract rfl rfl) ?_
                  refine WA_take 7 (by kernel_rfl) rfl (fun _ _ => rn_extract rfl rfl) ?_
                  refine WA_one 9 (by kernel_rfl) ?_
                  refine WO_sk rfl rfl (sk_storeA 512 (bv P) rfl rfl hr9 (by kernel_rfl) (by first | assumption | (simp; done) | (simp [bv_length, *]; done)) (by first | assumption | (simp; done) | (simp [bv_length, *]; done) | rfl) (by first | exact bv_one _ | assumption | (simp [Value.oneCell']; done)) (fun w911 hr9 ho911 => ?_))
                  have hS910 := hS909.add1 ho911 (by first | (left; omega) | (right; simp; done) | (right; simp; omega))
                  refine ⟨hS910, ?_⟩
                  replace hr7 := hr7.only ho911 (Nat.ne_of_lt lt_g7_g9)
                  replace hr45 := hr45.only ho911 (Nat.ne_of_lt lt_g45_g9)
                  replace hB := ho911.below hB ge_hB_g9
                  refine WA_take 10 (by kernel_rfl) rfl (fun _ _ => rn_assign) ?_
                  refine WA_take 11 (by kernel_rfl) rfl (fun _ _ => rn_assign) ?_
                  refine WA_done (by kernel_rfl) ?_
                  refine loopN ⟨g9, ⟨rfl, rfl, rfl, rfl, rfl, rfl, rfl⟩, hr7, hr9, hB⟩
              ·
                refine WO_mk rfl rfl (mk_alloc (List.replicate 512 (Value.int .u8 0)) (by kernel_rfl) (fun g9 w9 hg9 hr9 hb9 => ?_))
                have hS912 := hS902.add0 hb9
                refine ⟨hS912, ?_⟩
                have ge_hS902_g9 := Nat.le_trans hS902.size hg9
                have ge_hB_g9 := Nat.le_trans hB.size hg9
                have lt_g7_g9 : g7 < g9 := Nat.lt_of_lt_of_le hr7.lt hg9
                replace hr7 := hr7.new hb9
                replace hB := hB.acc hb9
                rw [hzb] at hr9
                refine WA_one 2 (by kernel_rfl) ?_
                refine WO_mk rfl rfl (mk_make (e := 5) m [.int .u8 0] 1 1 (.int .u8 0) (by kernel_rfl) (by kernel_rfl) ⟨_, rfl, rfl⟩ ⟨_, rfl, rfl⟩ (by simp) (by simp) (by omega) (by omega) (fun g45 w45 hg45 hr45 hb45 => ?_))
                have hS913 := hS912.add0 hb45
                refine ⟨hS913, ?_⟩
                have ge_hS912_g45 := Nat.le_trans hS912.size hg45
                have ge_hB_g45 := Nat.le_trans hB.size hg45
                have lt_g7_g45 : g7 < g45 := Nat.lt_of_lt_of_le hr7.lt hg45
                have lt_g9_g45 : g9 < g45 := Nat.lt_of_lt_of_le hr9.lt hg45
                replace hr7 := hr7.new hb45
                replace hr9 := hr9.new hb45
                replace hB := hB.acc hb45
                rw [zeros_make, hr] at hr45
                refine WA_one 3 (by kernel_rfl) ?_
                refine WO_ent rfl rfl (rn_call (by kernel_rfl) rfl) (hL _ _ w45 (hr45.slA (m := m) (sz := 1) (by rw [bv_length, hrl, Nat.mul_one]) (by omega))) ?_
                rintro _ w46 ⟨rfl, hb46⟩
                have hS914 := hS913.add0 hb46
                refine ⟨hS914, ?_⟩
                replace hr7 := hr7.new hb46
                replace hr9 := hr9.new hb46
                replace hr45 := hr45.new hb46
                replace hB := hB.acc hb46
                refine WA_take 4 (by kernel_rfl) rfl (fun _ _ => rn_move) ?_
                refine WA_take 5 (by kernel_rfl) rfl (fun _ _ => rn_extract rfl rfl) ?_
                refine WA_take 6 (by kernel_rfl) rfl (fun _ _ => rn_extract rfl rfl) ?_
                refine WA_take 7 (by kernel_rfl) rfl (fun _ _ => rn_extract rfl rfl) ?_
                refine WA_one 9 (by kernel_rfl) ?_
                refine WO_sk rfl rfl (sk_storeA 512 (bv P) rfl rfl hr9 (by kernel_rfl) (by first | assumption | (simp; done) | (simp [bv_length, *]; done)) (by first | assumption | (simp; done) | (simp [bv_length, *]; done) | rfl) (by first | exact bv_one _ | assumption | (simp [Value.oneCell']; done)) (fun w916 hr9 ho916 => ?_))
                have hS915 := hS914.add1 ho916 (by first | (left; omega) | (right; simp; done) | (right; simp; omega))
                refine ⟨hS915, ?_⟩
                replace hr7 := hr7.only ho916 (Nat.ne_of_lt lt_g7_g9)
                replace hr45 := hr45.only ho916 (Nat.ne_of_gt lt_g9_g45)
                replace hB := ho916.below hB ge_hB_g9
                refine WA_take 10 (by kernel_rfl) rfl (fun _ _ => rn_assign) ?_
                refine WA_take 11 (by kernel_rfl) rfl (fun _ _ => rn_assign) ?_
                refine WA_done (by kernel_rfl) ?_
                refine loopN ⟨g9, ⟨rfl, rfl, rfl, rfl, rfl, rfl, rfl⟩, hr7, hr9, hB⟩
            ·
              rintro g9 f1 w1 ⟨hr7, hr9, hB⟩
              refine W_seq ?_
              refine W_seq ?_
              refine W_region ?_
              refine WR_val rfl (rn_move) ?_
              refine WR_val rfl (rn_eql rfl rfl) ?_
              refine WR_val rfl (rn_move) ?_
              refine WR_val rfl (rn_load rfl (Ld.rowA (k := 512) hr7 (by kernel_rfl) (by kernel_rfl) (by first | (simp; done) | (simp [bv_length, *]; done) | assumption))) ?_
              refine WR_ent rfl (rn_call (by kernel_rfl) rfl) (hRm w1) ?_
              rintro _ w54 ⟨rfl, hb54⟩
              replace hr7 := hr7.new hb54
              replace hr9 := hr9.new hb54
              replace hB := hB.acc hb54
              refine WR_val rfl (rn_leq rfl rfl) ?_
              refine WR_val rfl (rn_neqb (by kernel_rfl) rfl rfl) ?_
              refine WR_nil ?_
              refine thenN ?_
              refine W_ifn rfl (fun hq => ?_) (fun hq => ?_)
              ·
                refine W_seq ?_
                refine W_region ?_
                refine WR_val rfl (rn_assign) ?_
                refine WR_nil ?_
                refine thenN ?_
                refine W_ret ?_
                refine thenR ?_
                refine ret_ret [_] ⟨rfl, trivial⟩ ?_
                exfalso
                revert hq
                by_cases h0 : E = 0
                · have := hri.1 h0
                  simp [h0, this]
                · have : ¬ (m : Int) ≤ roomV V := fun h1 => h0 (hri.2 h1)
                  simp [h0, this]
              ·
                refine W_skip ?_
                refine thenN ?_
                refine W_seq ?_
                refine W_seq ?_
                refine W_region ?_
                refine WR_val rfl (rn_move) ?_
                refine WR_val rfl (rn_neq rfl rfl) ?_
                refine WR_nil ?_
                refine thenN ?_
                refine W_ifp rfl (fun hne => ?_) (fun hne => ?_)
                ·
                  refine W_seq ?_
                  refine W_region ?_
                  refine WR_val rfl (rn_move) ?_
                  refine WR_val rfl (rn_eql rfl rfl) ?_
                  refine WR_val rfl (rn_move) ?_
                  refine WR_val rfl (rn_gtr rfl rfl) ?_
                  refine WR_val rfl (rn_eqlb (by kernel_rfl) rfl rfl) ?_
                  refine WR_val rfl (rn_move) ?_
                  refine WR_tp 64 rfl ((by rcases hle with h | h | h <;> simp [h] <;> omega)) ?_
                  refine WR_yes rfl ?_
                  refine WR_val rfl (rn_move) ?_
                  refine WR_yes rfl ?_
                  refine WR_val rfl (rn_eql rfl rfl) ?_
                  refine WR_yes rfl ?_
                  refine WR_val rfl (rn_move) ?_
                  refine WR_part 67 rfl (fun he3 => ?_) (fun he3 => ?_)
                  ·
                    refine WR_no rfl rfl ?_
                    refine WR_no rfl rfl ?_
                    refine WR_yes rfl ?_
                    refine WR_val rfl (rn_pick_t rfl) ?_
                    refine WR_val rfl (rn_pick_t rfl) ?_
                    refine WR_val rfl (rn_move) ?_
                    refine WR_yes rfl ?_
                    refine WR_ent rfl (rn_call (by kernel_rfl) rfl) (known13 w54) ?_
                    rintro _ w73 ⟨rfl, hb73⟩
                    replace hr7 := hr7.new hb73
                    replace hr9 := hr9.new hb73
                    replace hB := hB.acc hb73
                    refine WR_val rfl (rn_pick_t rfl) ?_
                    refine WR_val rfl (rn_assign) ?_
                    refine WR_nil ?_
                    refine thenN ?_
                    refine W_ret ?_
                    refine thenR ?_
                    refine ret_ret [_] ⟨rfl, trivial⟩ ?_
                    exact ⟨rfl, hB⟩
                  ·
                    refine WR_yes rfl ?_
                    refine WR_val rfl (rn_move) ?_
                    refine WR_yes rfl ?_
                    refine WR_val rfl (rn_eql rfl rfl) ?_
                    refine WR_yes rfl ?_
                    refine WR_val rfl (rn_pick_f rfl) ?_
                    refine WR_val rfl (rn_pick_t rfl) ?_
                    refine WR_val rfl (rn_move) ?_
                    refine WR_tp 72 rfl ((by omega)) ?_
                    refine WR_yes rfl ?_
                    refine WR_ent rfl (rn_call (by kernel_rfl) rfl) (known13 w54) ?_
                    rintro _ w73 ⟨rfl, hb73⟩
                    replace hr7 := hr7.new hb73
                    replace hr9 := hr9.new hb73
                    replace hB := hB.acc hb73
                    refine WR_val rfl (rn_pick_t rfl) ?_
                    refine WR_val rfl (rn_assign) ?_
                    refine WR_nil ?_
                    refine thenN ?_
                    refine W_ret ?_
                    refine thenR ?_
                    refine ret_ret [_] ⟨rfl, trivial⟩ ?_
                    exact ⟨rfl, hB⟩
                ·
                  have hE0 : E = 0 := by omega
                  have hTk3 := hTk2 hE0
                  have hbq : Q.length = 512 := by rw [bv_length] at hbl; exact hbl
                  refine W_skip ?_
                  refine thenN ?_
                  refine W_seq ?_
                  refine W_region ?_
                  refine WR_val rfl (rn_load rfl (Ld.rowA (k := 512) hr9 (by kernel_rfl) (by kernel_rfl) (by first | (simp; done) | (simp [bv_length, *]; done) | assumption))) ?_
                  refine WR_val rfl (rn_move) ?_
                  refine WR_ent rfl (rn_call (by kernel_rfl) rfl) (hTk3 w54) ?_
                  rintro _ w78 ⟨rfl, hb78⟩
                  replace hr7 := hr7.new hb78
                  replace hr9 := hr9.new hb78
                  replace hB := hB.acc hb78
                  refine WR_val rfl (rn_move) ?_
                  refine WR_val rfl (rn_extract rfl rfl) ?_
                  refine WR_val rfl (rn_extract rfl rfl) ?_
                  refine WR_mk rfl (mk_alloc (List.replicate 512 (Value.int .u8 0)) (by kernel_rfl) (fun g12 w12 hg12 hr12 hb12 => ?_))
                  have ge_hB_g12 := Nat.le_trans hB.size hg12
                  have lt_g7_g12 : g7 < g12 := Nat.lt_of_lt_of_le hr7.lt hg12
                  have lt_g9_g12 : g9 < g12 := Nat.lt_of_lt_of_le hr9.lt hg12
                  replace hr7 := hr7.new hb12
                  replace hr9 := hr9.new hb12
                  replace hB := hB.acc hb12
                  rw [hzb] at hr12
                  refine WR_sk rfl (sk_storeA 512 (bv Q) rfl rfl hr12 (by kernel_rfl) (by first | assumption | (simp; done) | (simp [bv_length, *]; done)) (by first | assumption | (simp; done) | (simp [bv_length, *]; done) | rfl) (by first | exact bv_one _ | assumption | (simp [Value.oneCell']; done)) (fun w917 hr12 ho917 => ?_))
                  replace hr7 := hr7.only ho917 (Nat.ne_of_lt lt_g7_g12)
                  replace hr9 := hr9.only ho917 (Nat.ne_of_lt lt_g9_g12)
                  replace hB := ho917.below hB ge_hB_g12
                  refine WR_val rfl (rn_assign) ?_
                  refine WR_nil ?_
                  refine thenN ?_
                  refine W_seq ?_
                  refine W_region ?_
                  refine WR_val rfl (rn_move) ?_
                  refine WR_val rfl (rn_eql rfl rfl) ?_
                  refine WR_val rfl (rn_move) ?_
                  refine WR_tp 83 rfl (rfl) ?_
                  refine WR_yes rfl ?_
                  refine WR_val rfl (rn_load rfl (Ld.rowA (k := 512) hr12 (by kernel_rfl) (by kernel_rfl) (by first | (simp; done) | (simp [bv_length, *]; done) | assumption))) ?_
                  refine WR_yes rfl ?_
                  refine WR_val rfl (rn_load rfl (Ld.rowA (k := 512) hr7 (by kernel_rfl) (by kernel_rfl) (by first | (simp; done) | (simp [bv_length, *]; done) | assumption))) ?_
                  refine WR_yes rfl ?_
                  refine WR_val rfl (rn_eqlA (n := 512) (by kernel_rfl) rfl rfl hbq hbq) ?_
                  refine WR_val rfl (rn_pick_t rfl) ?_
                  refine WR_val rfl (rn_move) ?_
                  refine WR_tp 88 rfl ((by simp)) ?_
                  refine WR_yes rfl ?_
                  refine WR_ent rfl (rn_call (by kernel_rfl) rfl) (known13 w917) ?_
                  rintro _ w89 ⟨rfl, hb89⟩
                  replace hr7 := hr7.new hb89
                  replace hr9 := hr9.new hb89
                  replace hr12 := hr12.new hb89
                  replace hB := hB.acc hb89
                  refine WR_val rfl (rn_pick_t rfl) ?_
                  refine WR_val rfl (rn_assign) ?_
                  refine WR_nil ?_
                  refine thenN ?_
                  refine W_ret ?_
                  refine ret_ret [_] ⟨rfl, trivial⟩ ?_
                  exact ⟨rfl, hB⟩
end Go.Proofs.Ytjdcopfnhkfimaa
