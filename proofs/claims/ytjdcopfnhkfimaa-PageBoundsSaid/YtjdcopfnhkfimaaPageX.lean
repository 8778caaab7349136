/- The law of slots. -/
import Derived.Test.YtjdcopfnhkfimaaPageW
namespace Go.Proofs.Ytjdcopfnhkfimaa
open Go Go.RowKit Coup

/-- A slot's record stays, whatever is done to others. -/
theorem setS_other {S : List (Option (List UInt8))} {i j : Nat} {r : List UInt8} {s : Option (List UInt8)} (hj : S[j]? = some s) (h : i ≠ j) : (setS S i r)[j]? = some s := by
  have hl := (List.getElem?_eq_some_iff.1 hj).1
  unfold setS
  split
  · rw [List.getElem?_append_left hl]; exact hj
  · rw [List.getElem?_set_ne h]; exact hj
theorem trim_keep {S : List (Option (List UInt8))} {j : Nat} {r : List UInt8} (h : S[j]? = some (some r)) : (trimS S)[j]? = some (some r) := by
  induction hn : S.length generalizing S with
  | zero => rw [List.eq_nil_of_length_eq_zero hn] at h; simp at h
  | succ n ih =>
    rcases List.eq_nil_or_concat S with rfl | ⟨T, s, rfl⟩
    · simp at hn
    · rw [List.concat_eq_append] at hn h ⊢
      cases s with
      | some r' => rw [trimS_yes]; exact h
      | none =>
        rw [trimS_no]
        have hT : T.length = n := by simp at hn; omega
        refine ih ?_ hT
        rcases Nat.lt_or_ge j T.length with h1 | h1
        · rwa [List.getElem?_append_left h1] at h
        · rw [List.getElem?_append_right h1] at h
          rcases Nat.eq_zero_or_pos (j - T.length) with h2 | h2
          · rw [h2] at h; cases h
          · rw [List.getElem?_eq_none (by simp; omega)] at h; cases h
theorem free_not {S : List (Option (List UInt8))} {j : Nat} {r : List UInt8} (h : S[j]? = some (some r)) : freeV S ≠ j := fun e => by
  have hl := (List.getElem?_eq_some_iff.1 h).1
  have := free_none (S := S) (by omega)
  rw [e, h] at this; cases this
theorem act_keep {V : View} {a : ActT} {j : Nat} {r : List UInt8} (h : V.slots[j]? = some (some r)) (ha : a.kind = 1 ∨ a.kind = 4 ∨ a.slot ≠ (j : Int)) : (actV V a).slots[j]? = some (some r) := by
  unfold actV
  split
  · split
    · exact setS_other h (free_not h)
    · exact h
  · rename_i h1
    split
    · rename_i h2
      split
      · rename_i hp
        have hs : hasV V.slots a.slot = true := by
          unfold putE at hp
          split at hp
          · cases hp
          · split at hp
            · assumption
            · cases hp
        obtain ⟨i, r', hi, _⟩ := hasV_some hs
        exact setS_other h (by omega)
      · exact h
    · split
      · rename_i h3
        split
        · rename_i hs
          obtain ⟨i, r', hi, _⟩ := hasV_some hs
          show (trimS (V.slots.set a.slot.toNat none))[j]? = _
          refine trim_keep ?_
          rw [List.getElem?_set_ne (by omega)]
          exact h
        · exact h
      · split
        · split
          · exact h
          · exact h
        · exact h
theorem getR_of {S : List (Option (List UInt8))} {j : Nat} {r : List UInt8} (h : S[j]? = some (some r)) : getR S (j : Int) = r := by
  rw [getR, hasV_of h, if_pos rfl, Int.toNat_natCast, List.getD_eq_getElem?_getD, h]; rfl
set_option maxHeartbeats 2000000 in
theorem slotsC (k : Int) (p : Option Addr) (n cp : Nat) (R : List ActT) (pb : Option Addr) (nb cb : Nat) (b : List UInt8) (pm : Option Addr) (nm cm : Nat) (M : List ActT) (w : World) (h : ActsAt w p n R) (hb : SlAt w pb nb 1 (bv b)) (hM : ActsAt w pm nm M) :
    Calls Try.prog 5 [.int .i64 k, .slice p n cp, .slice pb nb cb, .slice pm nm cm].toArray w (Ret fun v w' => v = .bool true ∧ Below w.heap.size w w') := by
  have hB := Below.refl w.heap.size w
  have hml : maxLen = 9223372036854775807 := by decide
  have hbl : b.length = nb := by simpa [bv_length] using hb.len
  subst hbl
  obtain ⟨Z, hzz, hzb, hzl⟩ := zeroQ
  refine calls_W (fn := Try.f5) (rs := [.tmp 8]) (n := 114) Try.func5 rfl rfl Try.ntmps5 (by kernel_rfl) rfl ?_
  refine W_seq ?_
  refine W_region ?_
  refine WR_val rfl (rn_assign) ?_
  refine WR_nil ?_
  refine thenN ?_
  refine W_seq ?_
  refine W_seq ?_
  refine W_region ?_
  refine WR_val rfl (rn_move) ?_
  refine WR_ent rfl (rn_call (by kernel_rfl) rfl) (few14 p n cp 30 R w (h.below hB) (by omega)) ?_
  rintro _ w17 ⟨Bf, rfl, hfew, hb17⟩
  replace hB := hB.acc hb17
  refine WR_val rfl (rn_not rfl) ?_
  refine WR_val rfl (rn_move) ?_
  refine WR_partnb 19 rfl (fun h0 => ?_) (fun h0 => ?_)
  ·
    refine WR_no rfl rfl ?_
    refine WR_no rfl rfl ?_
    refine WR_no rfl rfl ?_
    refine WR_val rfl (rn_pick_t rfl) ?_
    refine WR_val rfl (rn_move) ?_
    refine WR_no rfl rfl ?_
    refine WR_no rfl rfl ?_
    refine WR_val rfl (rn_pick_t rfl) ?_
    refine WR_val rfl (rn_move) ?_
    refine WR_no rfl rfl ?_
    refine WR_no rfl rfl ?_
    refine WR_val rfl (rn_pick_t rfl) ?_
    refine WR_val rfl (rn_move) ?_
    refine WR_no rfl rfl ?_
    refine WR_no rfl rfl ?_
    refine WR_no rfl rfl ?_
    refine WR_val rfl (rn_pick_t rfl) ?_
    refine WR_nil ?_
    refine thenN ?_
    refine W_t rfl ?_
    refine W_seq ?_
    refine W_region ?_
    refine WR_ent rfl (rn_call (by kernel_rfl) rfl) (known13 w17) ?_
    rintro _ w37 ⟨rfl, hb37⟩
    replace hB := hB.acc hb37
    refine WR_val rfl (rn_assign) ?_
    refine WR_nil ?_
    refine thenN ?_
    refine W_ret ?_
    refine thenR ?_
    refine ret_ret [_] ⟨rfl, trivial⟩ ?_
    exact ⟨rfl, hB⟩
  ·
    refine WR_yes rfl ?_
    refine WR_val rfl (rn_move) ?_
    refine WR_yes rfl ?_
    refine WR_ent rfl (rn_call (by kernel_rfl) rfl) (few14 pm nm cm 30 M w17 (hM.below hB) (by omega)) ?_
    rintro _ w21 ⟨Bm, rfl, hfewm, hb21⟩
    replace hB := hB.acc hb21
    refine WR_yes rfl ?_
    refine WR_val rfl (rn_not rfl) ?_
    refine WR_val rfl (rn_pick_f rfl) ?_
    refine WR_val rfl (rn_move) ?_
    refine WR_partnb 24 rfl (fun h0m => ?_) (fun h0m => ?_)
    ·
      refine WR_no rfl rfl ?_
      refine WR_no rfl rfl ?_
      refine WR_val rfl (rn_pick_t rfl) ?_
      refine WR_val rfl (rn_move) ?_
      refine WR_no rfl rfl ?_
      refine WR_no rfl rfl ?_
      refine WR_val rfl (rn_pick_t rfl) ?_
      refine WR_val rfl (rn_move) ?_
      refine WR_no rfl rfl ?_
      refine WR_no rfl rfl ?_
      refine WR_no rfl rfl ?_
      refine WR_val rfl (rn_pick_t rfl) ?_
      refine WR_nil ?_
      refine thenN ?_
      refine W_t rfl ?_
      refine W_seq ?_
      refine W_region ?_
      refine WR_ent rfl (rn_call (by kernel_rfl) rfl) (known13 w21) ?_
      rintro _ w37 ⟨rfl, hb37⟩
      replace hB := hB.acc hb37
      refine WR_val rfl (rn_assign) ?_
      refine WR_nil ?_
      refine thenN ?_
      refine W_ret ?_
      refine thenR ?_
      refine ret_ret [_] ⟨rfl, trivial⟩ ?_
      exact ⟨rfl, hB⟩
    ·
      refine WR_yes rfl ?_
      refine WR_val rfl (rn_move) ?_
      refine WR_yes rfl ?_
      refine WR_val rfl (rn_lss rfl rfl) ?_
      refine WR_val rfl (rn_pick_f rfl) ?_
      refine WR_val rfl (rn_move) ?_
      refine WR_part 28 rfl (fun h1 => ?_) (fun h1 => ?_)
      ·
        refine WR_no rfl rfl ?_
        refine WR_no rfl rfl ?_
        refine WR_val rfl (rn_pick_t rfl) ?_
        refine WR_val rfl (rn_move) ?_
        refine WR_no rfl rfl ?_
        refine WR_no rfl rfl ?_
        refine WR_no rfl rfl ?_
        refine WR_val rfl (rn_pick_t rfl) ?_
        refine WR_nil ?_
        refine thenN ?_
        refine W_t rfl ?_
        refine W_seq ?_
        refine W_region ?_
        refine WR_ent rfl (rn_call (by kernel_rfl) rfl) (known13 w21) ?_
        rintro _ w37 ⟨rfl, hb37⟩
        replace hB := hB.acc hb37
        refine WR_val rfl (rn_assign) ?_
        refine WR_nil ?_
        refine thenN ?_
        refine W_ret ?_
        refine thenR ?_
        refine ret_ret [_] ⟨rfl, trivial⟩ ?_
        exact ⟨rfl, hB⟩
      ·
        refine WR_yes rfl ?_
        refine WR_val rfl (rn_move) ?_
        refine WR_yes rfl ?_
        refine WR_val rfl (rn_gtr rfl rfl) ?_
        refine WR_val rfl (rn_pick_f rfl) ?_
        refine WR_val rfl (rn_move) ?_
        refine WR_part 32 rfl (fun h2 => ?_) (fun h2 => ?_)
        ·
          refine WR_no rfl rfl ?_
          refine WR_no rfl rfl ?_
          refine WR_no rfl rfl ?_
          refine WR_val rfl (rn_pick_t rfl) ?_
          refine WR_nil ?_
          refine thenN ?_
          refine W_t rfl ?_
          refine W_seq ?_
          refine W_region ?_
          refine WR_ent rfl (rn_call (by kernel_rfl) rfl) (known13 w21) ?_
          rintro _ w37 ⟨rfl, hb37⟩
          replace hB := hB.acc hb37
          refine WR_val rfl (rn_assign) ?_
          refine WR_nil ?_
          refine thenN ?_
          refine W_ret ?_
          refine thenR ?_
          refine ret_ret [_] ⟨rfl, trivial⟩ ?_
          exact ⟨rfl, hB⟩
        ·
          refine WR_yes rfl ?_
          refine WR_val rfl (rn_move) ?_
          refine WR_yes rfl ?_
          refine WR_val rfl (rn_lenSl (e := 5) (sz := 1) (by kernel_rfl) rfl rfl) ?_
          refine WR_yes rfl ?_
          refine WR_val rfl (rn_gtr rfl rfl) ?_
          refine WR_val rfl (rn_pick_f rfl) ?_
          refine WR_nil ?_
          refine thenN ?_
          refine W_ifp rfl (fun h3 => ?_) (fun h3 => ?_)
          ·
            refine W_seq ?_
            refine W_region ?_
            refine WR_ent rfl (rn_call (by kernel_rfl) rfl) (known13 w21) ?_
            rintro _ w37 ⟨rfl, hb37⟩
            replace hB := hB.acc hb37
            refine WR_val rfl (rn_assign) ?_
            refine WR_nil ?_
            refine thenN ?_
            refine W_ret ?_
            refine thenR ?_
            refine ret_ret [_] ⟨rfl, trivial⟩ ?_
            exact ⟨rfl, hB⟩
          ·
            obtain ⟨k, rfl⟩ : ∃ k' : Nat, k = k' := ⟨k.toNat, by omega⟩
            have hBt : Bf = true := by cases Bf with | true => rfl | false => cases h0
            have hBm : Bm = true := by cases Bm with | true => rfl | false => cases h0m
            obtain ⟨hn, hR⟩ := hfew hBt
            obtain ⟨hnm, hRm⟩ := hfewm hBm
            have hgp := playV_good R ⟨k, 0, []⟩ (good_new (by omega)) hR
            have hPl := fun w' h' => plays15 k p n cp R w' (by omega) h' hR (by omega)
            obtain ⟨V, hVd⟩ : ∃ V, playV ⟨k, 0, []⟩ R = V := ⟨_, rfl⟩
            rw [hVd] at hgp hPl
            have hV := hgp.1
            have hbl := bytes_len hV
            have hL := fun pr cr w' h' => lay8 V pr cr b w' hV h'
            have hpl := layP_len V b
            have hlg : layE V b = 0 → Good (withV V (freeV V.slots) b) := good_lay hV
            have hlp : layE V b = 0 → layP V b = bytesV (withV V (freeV V.slots) b) := fun h0 => by rw [layP, if_pos h0]
            obtain ⟨F, hF⟩ : ∃ F, (if layE V b = 0 then freeV V.slots else 0) = F := ⟨_, rfl⟩
            have hF2 : layE V b = 0 → F = freeV V.slots := fun h0 => by rw [← hF, if_pos h0]
            obtain ⟨P, hP⟩ : ∃ P, layP V b = P := ⟨_, rfl⟩
            obtain ⟨Q, hQ⟩ : ∃ Q, bytesV V = Q := ⟨_, rfl⟩
            obtain ⟨E, hE⟩ : ∃ E, layE V b = E := ⟨_, rfl⟩
            have hXF0 : (withV V (freeV V.slots) b).slots[freeV V.slots]? = some (some b) := setS_at (S := V.slots) (i := freeV V.slots) (r := b) (freeV_le _)
            obtain ⟨X, hXd⟩ : ∃ X, withV V (freeV V.slots) b = X := ⟨_, rfl⟩
            rw [hXd] at hlg hlp hXF0
            rw [hF, hP, hQ, hE] at hL
            rw [hQ] at hPl hbl
            rw [hP] at hpl
            rw [hE] at hlg hlp hF2
            rw [hP] at hlp
            clear hF hP hQ hE
            refine W_skip ?_
            refine thenN ?_
            refine W_seq ?_
            refine W_region ?_
            refine WR_val rfl (rn_move) ?_
            refine WR_val rfl (rn_move) ?_
            refine WR_ent rfl (rn_call (by kernel_rfl) rfl) (hPl w21 (h.below hB)) ?_
            rintro _ w41 ⟨rfl, hb41⟩
            replace hB := hB.acc hb41
            refine WR_val rfl (rn_move) ?_
            refine WR_val rfl (rn_extract rfl rfl) ?_
            refine WR_val rfl (rn_extract rfl rfl) ?_
            refine WR_mk rfl (mk_alloc (List.replicate 512 (Value.int .u8 0)) (by kernel_rfl) (fun g9 w9 hg9 hr9 hb9 => ?_))
            have ge_hB_g9 := Nat.le_trans hB.size hg9
            replace hB := hB.acc hb9
            rw [hzb] at hr9
            refine WR_sk rfl (sk_storeA 512 (bv Q) rfl rfl hr9 (by kernel_rfl) (by first | assumption | (simp; done) | (simp [bv_length, *]; done)) (by first | assumption | (simp; done) | (simp [bv_length, *]; done) | rfl) (by first | exact bv_one _ | assumption | (simp [Value.oneCell']; done)) (fun w901 hr9 ho901 => ?_))
            replace hB := ho901.below hB ge_hB_g9
            refine WR_val rfl (rn_assign) ?_
            refine WR_nil ?_
            refine thenN ?_
            refine W_seq ?_
            refine W_seq ?_
            refine W_region ?_
            refine WR_val rfl (rn_move) ?_
            refine WR_val rfl (rn_not rfl) ?_
            refine WR_nil ?_
            refine thenN ?_
            refine W_fnb rfl (rfl) ?_
            refine W_skip ?_
            refine thenN ?_
            refine W_seq ?_
            refine W_region ?_
            refine WR_val rfl (rn_load rfl (Ld.rowA (k := 512) hr9 (by kernel_rfl) (by kernel_rfl) (by first | (simp; done) | (simp [bv_length, *]; done) | assumption))) ?_
            refine WR_val rfl (rn_move) ?_
            refine WR_ent rfl (rn_call (by kernel_rfl) rfl) (hL pb cb w901 (hb.below hB (Nat.le_refl _))) ?_
            rintro _ w49 ⟨rfl, hb49⟩
            replace hr9 := hr9.new hb49
            replace hB := hB.acc hb49
            refine WR_val rfl (rn_move) ?_
            refine WR_val rfl (rn_extract rfl rfl) ?_
            refine WR_val rfl (rn_extract rfl rfl) ?_
            refine WR_val rfl (rn_extract rfl rfl) ?_
            refine WR_sk rfl (sk_storeA 512 (bv P) rfl rfl hr9 (by kernel_rfl) (by first | assumption | (simp; done) | (simp [bv_length, *]; done)) (by first | assumption | (simp; done) | (simp [bv_length, *]; done) | rfl) (by first | exact bv_one _ | assumption | (simp [Value.oneCell']; done)) (fun w902 hr9 ho902 => ?_))
            replace hB := ho902.below hB ge_hB_g9
            refine WR_val rfl (rn_assign) ?_
            refine WR_val rfl (rn_assign) ?_
            refine WR_nil ?_
            refine thenN ?_
            refine W_seq ?_
            refine W_seq ?_
            refine W_region ?_
            refine WR_val rfl (rn_move) ?_
            refine WR_val rfl (rn_neq rfl rfl) ?_
            refine WR_nil ?_
            refine thenN ?_
            refine W_ifp rfl (fun hne => ?_) (fun hne => ?_)
            ·
              refine W_seq ?_
              refine W_region ?_
              refine WR_ent rfl (rn_call (by kernel_rfl) rfl) (known13 w902) ?_
              rintro _ w55 ⟨rfl, hb55⟩
              replace hr9 := hr9.new hb55
              replace hB := hB.acc hb55
              refine WR_val rfl (rn_assign) ?_
              refine WR_nil ?_
              refine thenN ?_
              refine W_ret ?_
              refine thenR ?_
              refine ret_ret [_] ⟨rfl, trivial⟩ ?_
              exact ⟨rfl, hB⟩
            ·
              have hE0 : E = 0 := by omega
              have hX := hlg hE0
              rw [hlp hE0] at hr9
              have hF3 := hF2 hE0
              have hXF : X.slots[F]? = some (some b) := hF3 ▸ hXF0
              refine W_skip ?_
              refine thenN ?_
              refine W_seq ?_
              refine W_seq ?_
              refine W_region ?_
              refine WR_val rfl (rn_assign) ?_
              refine WR_nil ?_
              refine thenN ?_
              refine W_block ?_
              refine W_loop (α := Nat × View) (0, X) (fun q => [(13, .int .i64 (q.1 : Nat)), (3, .slice pm nm cm), (2, .slice pb b.length cb), (11, .int .i64 (F : Nat)), (9, .pointer (some ⟨g9, 0, none⟩))]) (fun q w' => q.1 ≤ nm ∧ Good q.2 ∧ q.2.slots[F]? = some (some b) ∧ row w' g9 (bv (bytesV q.2)) 23 ∧ Below w.heap.size w w') (fun q => nm - q.1)
                ⟨rfl, rfl, rfl, rfl, rfl, rfl⟩ ⟨Nat.zero_le _, hX, hXF, hr9, hB⟩ ?_
              clear hr9 hB
              have hw9 : w.heap.size ≤ g9 := by omega
              rintro ⟨i, Y⟩ f wr ⟨hi, hY, hYF, hr9, hB⟩
              simp only at hi hY hYF hr9
              have hly := bytes_len hY
              refine W_seq ?_
              refine W_seq ?_
              refine W_region ?_
              refine WR_val rfl (rn_move) ?_
              refine WR_val rfl (rn_move) ?_
              refine WR_val rfl (rn_lenSl (e := 39) (sz := 4) (by kernel_rfl) rfl rfl) ?_
              refine WR_val rfl (rn_lss rfl rfl) ?_
              refine WR_nil ?_
              refine thenN ?_
              refine W_ifp rfl (fun hlt => ?_) (fun hlt => ?_)
              ·
                refine W_skip ?_
                refine thenN ?_
                refine W_seq ?_
                refine W_block ?_
                refine W_seq ?_
                refine W_seq ?_
                have hobt := hM.get (i := i) (by omega)
                obtain ⟨a, hx⟩ := hobt
                have hobt := hM.some (by omega)
                obtain ⟨g, o, rfl, hg⟩ := hobt
                have hobt := hM.ld hx
                obtain ⟨q, qc, hq, hld⟩ := hobt
                refine W_region ?_
                refine WR_val rfl (rn_move) ?_
                refine WR_val rfl (rn_move) ?_
                refine WR_val rfl (rn_indexSl (e := 39) (sz := 4) (by kernel_rfl) rfl rfl (i) (by omega) (by omega)) ?_
                refine WR_val rfl (rn_fieldAddr (off := 0) (by kernel_rfl) rfl) ?_
                refine WR_val rfl (rn_load rfl (Ld.one (by kernel_rfl) ((hld _ hB).2 0 _ rfl))) ?_
                refine WR_val rfl (rn_neq rfl rfl) ?_
                refine WR_val rfl (rn_move) ?_
                refine WR_part 68 rfl (fun hk1 => ?_) (fun hk1 => ?_)
                ·
                  refine WR_yes rfl ?_
                  refine WR_val rfl (rn_move) ?_
                  refine WR_yes rfl ?_
                  refine WR_val rfl (rn_move) ?_
                  refine WR_yes rfl ?_
                  refine WR_val rfl (rn_indexSl (e := 39) (sz := 4) (by kernel_rfl) rfl rfl (i) (by omega) (by omega)) ?_
                  refine WR_yes rfl ?_
                  refine WR_val rfl (rn_fieldAddr (off := 0) (by kernel_rfl) rfl) ?_
                  refine WR_yes rfl ?_
                  refine WR_val rfl (rn_load rfl (Ld.one (by kernel_rfl) ((hld _ hB).2 0 _ rfl))) ?_
                  refine WR_yes rfl ?_
                  refine WR_val rfl (rn_neq rfl rfl) ?_
                  refine WR_val rfl (rn_pick_t rfl) ?_
                  refine WR_val rfl (rn_move) ?_
                  refine WR_part 76 rfl (fun hk4 => ?_) (fun hk4 => ?_)
                  ·
                    refine WR_yes rfl ?_
                    refine WR_val rfl (rn_move) ?_
                    refine WR_yes rfl ?_
                    refine WR_val rfl (rn_move) ?_
                    refine WR_yes rfl ?_
                    refine WR_val rfl (rn_indexSl (e := 39) (sz := 4) (by kernel_rfl) rfl rfl (i) (by omega) (by omega)) ?_
                    refine WR_yes rfl ?_
                    refine WR_val rfl (rn_fieldAddr (off := 1) (by kernel_rfl) rfl) ?_
                    refine WR_yes rfl ?_
                    refine WR_val rfl (rn_load rfl (Ld.one (by kernel_rfl) (by rw [Nat.add_assoc]; exact (hld _ hB).2 1 _ rfl))) ?_
                    refine WR_yes rfl ?_
                    refine WR_val rfl (rn_move) ?_
                    refine WR_yes rfl ?_
                    refine WR_val rfl (rn_eql rfl rfl) ?_
                    refine WR_val rfl (rn_pick_t rfl) ?_
                    refine WR_nil ?_
                    refine thenN ?_
                    refine W_ifp rfl (fun hsl => ?_) (fun hsl => ?_)
                    ·
                      refine W_exit ?_
                      refine thenX ?_
                      refine blockX ?_
                      refine thenN ?_
                      refine W_region ?_
                      refine WR_val rfl (rn_move) ?_
                      refine WR_val rfl (rn_add rfl rfl (Coup.w64 (by omega))) ?_
                      refine WR_val rfl (rn_assign) ?_
                      refine WR_nil ?_
                      refine loopN ⟨(i + 1, Y), by simp only; omega, ⟨by go_num, rfl, rfl, rfl, rfl, rfl⟩, by simp only; omega, hY, hYF, hr9, hB⟩
                    ·
                      have hkc : a.kind = 1 ∨ a.kind = 4 ∨ a.slot ≠ (F : Int) := by omega
                      have hk7 := hRm i a hx
                      have hD := fun w' h1 => do16 Y a q qc w' hY hk7 h1
                      have hY2 := actV_good hY a hk7
                      have hYF2 := act_keep hYF hkc
                      have hls := bytes_len hY2
                      have hGt := fun w' => get17 (actV Y a) (F : Int) w' hY2
                      rw [getR_of hYF2, hasV_of hYF2] at hGt
                      have hob1 : ∃ Q1, bytesV Y = Q1 := ⟨_, rfl⟩
                      obtain ⟨Q1, hQ1⟩ := hob1
                      have hob2 : ∃ Q2, bytesV (actV Y a) = Q2 := ⟨_, rfl⟩
                      obtain ⟨Q2, hQ2⟩ := hob2
                      rw [hQ1] at hD hly hr9
                      rw [hQ2] at hD hls hGt
                      refine W_skip ?_
                      refine thenN ?_
                      refine W_seq ?_
                      refine W_draw' [g9] (by kernel_rfl) ?_
                      intro w903 hb903 hS903
                      replace hr9 := hr9.new hb903
                      replace hB := hB.acc hb903
                      have hr9_d903 := hr9
                      have hB_d903 := hB
                      refine WA_take 1 (by kernel_rfl) rfl (fun _ _ => rn_move) ?_
                      refine WA_take 2 (by kernel_rfl) rfl (fun _ _ => rn_move) ?_
                      refine WA_take 3 (by kernel_rfl) rfl (fun _ _ => rn_indexSl (e := 39) (sz := 4) (by kernel_rfl) rfl rfl (i) (by omega) (by omega)) ?_
                      refine WA_take 4 (by kernel_rfl) rfl (fun w' hS' => rn_load rfl ((hld _ (hB_d903.kpd hS' (by first | (simp; done) | (simp; omega) | (simp [*]; done)))).1)) ?_
                      refine WA_one 0 (by kernel_rfl) ?_
                      refine WO_val rfl rfl (rn_load rfl (Ld.rowA (k := 512) hr9 (by kernel_rfl) (by kernel_rfl) (by first | (simp; done) | (simp [bv_length, *]; done) | assumption))) hS903 ?_
                      refine WA_one 5 (by kernel_rfl) ?_
                      refine WO_ent rfl rfl (rn_call (by kernel_rfl) rfl) (hD w903 (hq.below hB (Nat.le_refl _))) ?_
                      rintro _ w91 ⟨rfl, hb91⟩
                      have hS905 := hS903.add0 hb91
                      refine ⟨hS905, ?_⟩
                      replace hr9 := hr9.new hb91
                      replace hB := hB.acc hb91
                      refine WA_take 6 (by kernel_rfl) rfl (fun _ _ => rn_move) ?_
                      refine WA_take 7 (by kernel_rfl) rfl (fun _ _ => rn_extract rfl rfl) ?_
                      refine WA_take 8 (by kernel_rfl) rfl (fun _ _ => rn_extract rfl rfl) ?_
                      refine WA_one 9 (by kernel_rfl) ?_
                      refine WO_sk rfl rfl (sk_storeA 512 (bv Q2) rfl rfl hr9 (by kernel_rfl) (by first | assumption | (simp; done) | (simp [bv_length, *]; done)) (by first | assumption | (simp; done) | (simp [bv_length, *]; done) | rfl) (by first | exact bv_one _ | assumption | (simp [Value.oneCell']; done)) (fun w907 hr9 ho907 => ?_))
                      have hS906 := hS905.add1 ho907 (by first | (left; omega) | (right; simp; done) | (right; simp; omega))
                      refine ⟨hS906, ?_⟩
                      replace hB := ho907.below hB ge_hB_g9
                      refine WA_take 10 (by kernel_rfl) rfl (fun _ _ => rn_assign) ?_
                      refine WA_done (by kernel_rfl) ?_
                      refine thenN ?_
                      refine W_seq ?_
                      refine W_region ?_
                      refine WR_val rfl (rn_load rfl (Ld.rowA (k := 512) hr9 (by kernel_rfl) (by kernel_rfl) (by first | (simp; done) | (simp [bv_length, *]; done) | assumption))) ?_
                      refine WR_val rfl (rn_move) ?_
                      refine WR_ent rfl (rn_call (by kernel_rfl) rfl) (hGt w907) ?_
                      rintro _ w97 ⟨⟨qx, cx, rfl, hqx⟩, hb97⟩
                      replace hr9 := hr9.new hb97
                      replace hB := hB.acc hb97
                      refine WR_val rfl (rn_move) ?_
                      refine WR_val rfl (rn_extract rfl rfl) ?_
                      refine WR_val rfl (rn_extract rfl rfl) ?_
                      refine WR_val rfl (rn_assign) ?_
                      refine WR_val rfl (rn_assign) ?_
                      refine WR_nil ?_
                      refine thenN ?_
                      refine W_seq ?_
                      refine W_region ?_
                      refine WR_val rfl (rn_move) ?_
                      refine WR_val rfl (rn_not rfl) ?_
                      refine WR_val rfl (rn_move) ?_
                      refine WR_fnb 102 rfl (rfl) ?_
                      refine WR_yes rfl ?_
                      refine WR_val rfl (rn_move) ?_
                      refine WR_yes rfl ?_
                      refine WR_val rfl (rn_neq rfl rfl) ?_
                      refine WR_val rfl (rn_pick_f rfl) ?_
                      refine WR_val rfl (rn_move) ?_
                      refine WR_fp 106 rfl ((by simp)) ?_
                      refine WR_yes rfl ?_
                      refine WR_val rfl (rn_move) ?_
                      refine WR_yes rfl ?_
                      refine WR_val rfl (rn_str (e := 5) (by kernel_rfl) (by kernel_rfl) (by kernel_rfl) rfl hqx) ?_
                      refine WR_yes rfl ?_
                      refine WR_val rfl (rn_move) ?_
                      refine WR_yes rfl ?_
                      refine WR_val rfl (rn_str (e := 5) (by kernel_rfl) (by kernel_rfl) (by kernel_rfl) rfl (hb.below hB (Nat.le_refl _))) ?_
                      refine WR_yes rfl ?_
                      refine WR_val rfl (rn_neqS rfl rfl) ?_
                      refine WR_val rfl (rn_pick_f rfl) ?_
                      refine WR_nil ?_
                      refine thenN ?_
                      refine W_fn rfl ((by simp)) ?_
                      refine W_skip ?_
                      refine blockN ?_
                      refine thenN ?_
                      refine W_region ?_
                      refine WR_val rfl (rn_move) ?_
                      refine WR_val rfl (rn_add rfl rfl (Coup.w64 (by omega))) ?_
                      refine WR_val rfl (rn_assign) ?_
                      refine WR_nil ?_
                      refine loopN ⟨(i + 1, actV Y a), by simp only; omega, ⟨by go_num, rfl, rfl, rfl, rfl, rfl⟩, by simp only; omega, hY2, hYF2, by simp only; rw [hQ2]; exact hr9, hB⟩
                  ·
                    have hkc : a.kind = 1 ∨ a.kind = 4 ∨ a.slot ≠ (F : Int) := by omega
                    have hk7 := hRm i a hx
                    have hD := fun w' h1 => do16 Y a q qc w' hY hk7 h1
                    have hY2 := actV_good hY a hk7
                    have hYF2 := act_keep hYF hkc
                    have hls := bytes_len hY2
                    have hGt := fun w' => get17 (actV Y a) (F : Int) w' hY2
                    rw [getR_of hYF2, hasV_of hYF2] at hGt
                    have hob1 : ∃ Q1, bytesV Y = Q1 := ⟨_, rfl⟩
                    obtain ⟨Q1, hQ1⟩ := hob1
                    have hob2 : ∃ Q2, bytesV (actV Y a) = Q2 := ⟨_, rfl⟩
                    obtain ⟨Q2, hQ2⟩ := hob2
                    rw [hQ1] at hD hly hr9
                    rw [hQ2] at hD hls hGt
                    refine WR_no rfl rfl ?_
                    refine WR_no rfl rfl ?_
                    refine WR_no rfl rfl ?_
                    refine WR_no rfl rfl ?_
                    refine WR_no rfl rfl ?_
                    refine WR_no rfl rfl ?_
                    refine WR_no rfl rfl ?_
                    refine WR_val rfl (rn_pick_f rfl) ?_
                    refine WR_nil ?_
                    refine thenN ?_
                    refine W_f rfl ?_
                    refine W_skip ?_
                    refine thenN ?_
                    refine W_seq ?_
                    refine W_draw' [g9] (by kernel_rfl) ?_
                    intro w908 hb908 hS908
                    replace hr9 := hr9.new hb908
                    replace hB := hB.acc hb908
                    have hr9_d908 := hr9
                    have hB_d908 := hB
                    refine WA_take 1 (by kernel_rfl) rfl (fun _ _ => rn_move) ?_
                    refine WA_take 2 (by kernel_rfl) rfl (fun _ _ => rn_move) ?_
                    refine WA_take 3 (by kernel_rfl) rfl (fun _ _ => rn_indexSl (e := 39) (sz := 4) (by kernel_rfl) rfl rfl (i) (by omega) (by omega)) ?_
                    refine WA_take 4 (by kernel_rfl) rfl (fun w' hS' => rn_load rfl ((hld _ (hB_d908.kpd hS' (by first | (simp; done) | (simp; omega) | (simp [*]; done)))).1)) ?_
                    refine WA_one 0 (by kernel_rfl) ?_
                    refine WO_val rfl rfl (rn_load rfl (Ld.rowA (k := 512) hr9 (by kernel_rfl) (by kernel_rfl) (by first | (simp; done) | (simp [bv_length, *]; done) | assumption))) hS908 ?_
                    refine WA_one 5 (by kernel_rfl) ?_
                    refine WO_ent rfl rfl (rn_call (by kernel_rfl) rfl) (hD w908 (hq.below hB (Nat.le_refl _))) ?_
                    rintro _ w91 ⟨rfl, hb91⟩
                    have hS910 := hS908.add0 hb91
                    refine ⟨hS910, ?_⟩
                    replace hr9 := hr9.new hb91
                    replace hB := hB.acc hb91
                    refine WA_take 6 (by kernel_rfl) rfl (fun _ _ => rn_move) ?_
                    refine WA_take 7 (by kernel_rfl) rfl (fun _ _ => rn_extract rfl rfl) ?_
                    refine WA_take 8 (by kernel_rfl) rfl (fun _ _ => rn_extract rfl rfl) ?_
                    refine WA_one 9 (by kernel_rfl) ?_
                    refine WO_sk rfl rfl (sk_storeA 512 (bv Q2) rfl rfl hr9 (by kernel_rfl) (by first | assumption | (simp; done) | (simp [bv_length, *]; done)) (by first | assumption | (simp; done) | (simp [bv_length, *]; done) | rfl) (by first | exact bv_one _ | assumption | (simp [Value.oneCell']; done)) (fun w912 hr9 ho912 => ?_))
                    have hS911 := hS910.add1 ho912 (by first | (left; omega) | (right; simp; done) | (right; simp; omega))
                    refine ⟨hS911, ?_⟩
                    replace hB := ho912.below hB ge_hB_g9
                    refine WA_take 10 (by kernel_rfl) rfl (fun _ _ => rn_assign) ?_
                    refine WA_done (by kernel_rfl) ?_
                    refine thenN ?_
                    refine W_seq ?_
                    refine W_region ?_
                    refine WR_val rfl (rn_load rfl (Ld.rowA (k := 512) hr9 (by kernel_rfl) (by kernel_rfl) (by first | (simp; done) | (simp [bv_length, *]; done) | assumption))) ?_
                    refine WR_val rfl (rn_move) ?_
                    refine WR_ent rfl (rn_call (by kernel_rfl) rfl) (hGt w912) ?_
                    rintro _ w97 ⟨⟨qx, cx, rfl, hqx⟩, hb97⟩
                    replace hr9 := hr9.new hb97
                    replace hB := hB.acc hb97
                    refine WR_val rfl (rn_move) ?_
                    refine WR_val rfl (rn_extract rfl rfl) ?_
                    refine WR_val rfl (rn_extract rfl rfl) ?_
                    refine WR_val rfl (rn_assign) ?_
                    refine WR_val rfl (rn_assign) ?_
                    refine WR_nil ?_
                    refine thenN ?_
                    refine W_seq ?_
                    refine W_region ?_
                    refine WR_val rfl (rn_move) ?_
                    refine WR_val rfl (rn_not rfl) ?_
                    refine WR_val rfl (rn_move) ?_
                    refine WR_fnb 102 rfl (rfl) ?_
                    refine WR_yes rfl ?_
                    refine WR_val rfl (rn_move) ?_
                    refine WR_yes rfl ?_
                    refine WR_val rfl (rn_neq rfl rfl) ?_
                    refine WR_val rfl (rn_pick_f rfl) ?_
                    refine WR_val rfl (rn_move) ?_
                    refine WR_fp 106 rfl ((by simp)) ?_
                    refine WR_yes rfl ?_
                    refine WR_val rfl (rn_move) ?_
                    refine WR_yes rfl ?_
                    refine WR_val rfl (rn_str (e := 5) (by kernel_rfl) (by kernel_rfl) (by kernel_rfl) rfl hqx) ?_
                    refine WR_yes rfl ?_
                    refine WR_val rfl (rn_move) ?_
                    refine WR_yes rfl ?_
                    refine WR_val rfl (rn_str (e := 5) (by kernel_rfl) (by kernel_rfl) (by kernel_rfl) rfl (hb.below hB (Nat.le_refl _))) ?_
                    refine WR_yes rfl ?_
                    refine WR_val rfl (rn_neqS rfl rfl) ?_
                    refine WR_val rfl (rn_pick_f rfl) ?_
                    refine WR_nil ?_
                    refine thenN ?_
                    refine W_fn rfl ((by simp)) ?_
                    refine W_skip ?_
                    refine blockN ?_
                    refine thenN ?_
                    refine W_region ?_
                    refine WR_val rfl (rn_move) ?_
                    refine WR_val rfl (rn_add rfl rfl (Coup.w64 (by omega))) ?_
                    refine WR_val rfl (rn_assign) ?_
                    refine WR_nil ?_
                    refine loopN ⟨(i + 1, actV Y a), by simp only; omega, ⟨by go_num, rfl, rfl, rfl, rfl, rfl⟩, by simp only; omega, hY2, hYF2, by simp only; rw [hQ2]; exact hr9, hB⟩
                ·
                  have hkc : a.kind = 1 ∨ a.kind = 4 ∨ a.slot ≠ (F : Int) := by omega
                  have hk7 := hRm i a hx
                  have hD := fun w' h1 => do16 Y a q qc w' hY hk7 h1
                  have hY2 := actV_good hY a hk7
                  have hYF2 := act_keep hYF hkc
                  have hls := bytes_len hY2
                  have hGt := fun w' => get17 (actV Y a) (F : Int) w' hY2
                  rw [getR_of hYF2, hasV_of hYF2] at hGt
                  have hob1 : ∃ Q1, bytesV Y = Q1 := ⟨_, rfl⟩
                  obtain ⟨Q1, hQ1⟩ := hob1
                  have hob2 : ∃ Q2, bytesV (actV Y a) = Q2 := ⟨_, rfl⟩
                  obtain ⟨Q2, hQ2⟩ := hob2
                  rw [hQ1] at hD hly hr9
                  rw [hQ2] at hD hls hGt
                  refine WR_no rfl rfl ?_
                  refine WR_no rfl rfl ?_
                  refine WR_no rfl rfl ?_
                  refine WR_no rfl rfl ?_
                  refine WR_no rfl rfl ?_
                  refine WR_no rfl rfl ?_
                  refine WR_val rfl (rn_pick_f rfl) ?_
                  refine WR_val rfl (rn_move) ?_
                  refine WR_no rfl rfl ?_
                  refine WR_no rfl rfl ?_
                  refine WR_no rfl rfl ?_
                  refine WR_no rfl rfl ?_
                  refine WR_no rfl rfl ?_
                  refine WR_no rfl rfl ?_
                  refine WR_no rfl rfl ?_
                  refine WR_val rfl (rn_pick_f rfl) ?_
                  refine WR_nil ?_
                  refine thenN ?_
                  refine W_f rfl ?_
                  refine W_skip ?_
                  refine thenN ?_
                  refine W_seq ?_
                  refine W_draw' [g9] (by kernel_rfl) ?_
                  intro w913 hb913 hS913
                  replace hr9 := hr9.new hb913
                  replace hB := hB.acc hb913
                  have hr9_d913 := hr9
                  have hB_d913 := hB
                  refine WA_take 1 (by kernel_rfl) rfl (fun _ _ => rn_move) ?_
                  refine WA_take 2 (by kernel_rfl) rfl (fun _ _ => rn_move) ?_
                  refine WA_take 3 (by kernel_rfl) rfl (fun _ _ => rn_indexSl (e := 39) (sz := 4) (by kernel_rfl) rfl rfl (i) (by omega) (by omega)) ?_
                  refine WA_take 4 (by kernel_rfl) rfl (fun w' hS' => rn_load rfl ((hld _ (hB_d913.kpd hS' (by first | (simp; done) | (simp; omega) | (simp [*]; done)))).1)) ?_
                  refine WA_one 0 (by kernel_rfl) ?_
                  refine WO_val rfl rfl (rn_load rfl (Ld.rowA (k := 512) hr9 (by kernel_rfl) (by kernel_rfl) (by first | (simp; done) | (simp [bv_length, *]; done) | assumption))) hS913 ?_
                  refine WA_one 5 (by kernel_rfl) ?_
                  refine WO_ent rfl rfl (rn_call (by kernel_rfl) rfl) (hD w913 (hq.below hB (Nat.le_refl _))) ?_
                  rintro _ w91 ⟨rfl, hb91⟩
                  have hS915 := hS913.add0 hb91
                  refine ⟨hS915, ?_⟩
                  replace hr9 := hr9.new hb91
                  replace hB := hB.acc hb91
                  refine WA_take 6 (by kernel_rfl) rfl (fun _ _ => rn_move) ?_
                  refine WA_take 7 (by kernel_rfl) rfl (fun _ _ => rn_extract rfl rfl) ?_
                  refine WA_take 8 (by kernel_rfl) rfl (fun _ _ => rn_extract rfl rfl) ?_
                  refine WA_one 9 (by kernel_rfl) ?_
                  refine WO_sk rfl rfl (sk_storeA 512 (bv Q2) rfl rfl hr9 (by kernel_rfl) (by first | assumption | (simp; done) | (simp [bv_length, *]; done)) (by first | assumption | (simp; done) | (simp [bv_length, *]; done) | rfl) (by first | exact bv_one _ | assumption | (simp [Value.oneCell']; done)) (fun w917 hr9 ho917 => ?_))
                  have hS916 := hS915.add1 ho917 (by first | (left; omega) | (right; simp; done) | (right; simp; omega))
                  refine ⟨hS916, ?_⟩
                  replace hB := ho917.below hB ge_hB_g9
                  refine WA_take 10 (by kernel_rfl) rfl (fun _ _ => rn_assign) ?_
                  refine WA_done (by kernel_rfl) ?_
                  refine thenN ?_
                  refine W_seq ?_
                  refine W_region ?_
                  refine WR_val rfl (rn_load rfl (Ld.rowA (k := 512) hr9 (by kernel_rfl) (by kernel_rfl) (by first | (simp; done) | (simp [bv_length, *]; done) | assumption))) ?_
                  refine WR_val rfl (rn_move) ?_
                  refine WR_ent rfl (rn_call (by kernel_rfl) rfl) (hGt w917) ?_
                  rintro _ w97 ⟨⟨qx, cx, rfl, hqx⟩, hb97⟩
                  replace hr9 := hr9.new hb97
                  replace hB := hB.acc hb97
                  refine WR_val rfl (rn_move) ?_
                  refine WR_val rfl (rn_extract rfl rfl) ?_
                  refine WR_val rfl (rn_extract rfl rfl) ?_
                  refine WR_val rfl (rn_assign) ?_
                  refine WR_val rfl (rn_assign) ?_
                  refine WR_nil ?_
                  refine thenN ?_
                  refine W_seq ?_
                  refine W_region ?_
                  refine WR_val rfl (rn_move) ?_
                  refine WR_val rfl (rn_not rfl) ?_
                  refine WR_val rfl (rn_move) ?_
                  refine WR_fnb 102 rfl (rfl) ?_
                  refine WR_yes rfl ?_
                  refine WR_val rfl (rn_move) ?_
                  refine WR_yes rfl ?_
                  refine WR_val rfl (rn_neq rfl rfl) ?_
                  refine WR_val rfl (rn_pick_f rfl) ?_
                  refine WR_val rfl (rn_move) ?_
                  refine WR_fp 106 rfl ((by simp)) ?_
                  refine WR_yes rfl ?_
                  refine WR_val rfl (rn_move) ?_
                  refine WR_yes rfl ?_
                  refine WR_val rfl (rn_str (e := 5) (by kernel_rfl) (by kernel_rfl) (by kernel_rfl) rfl hqx) ?_
                  refine WR_yes rfl ?_
                  refine WR_val rfl (rn_move) ?_
                  refine WR_yes rfl ?_
                  refine WR_val rfl (rn_str (e := 5) (by kernel_rfl) (by kernel_rfl) (by kernel_rfl) rfl (hb.below hB (Nat.le_refl _))) ?_
                  refine WR_yes rfl ?_
                  refine WR_val rfl (rn_neqS rfl rfl) ?_
                  refine WR_val rfl (rn_pick_f rfl) ?_
                  refine WR_nil ?_
                  refine thenN ?_
                  refine W_fn rfl ((by simp)) ?_
                  refine W_skip ?_
                  refine blockN ?_
                  refine thenN ?_
                  refine W_region ?_
                  refine WR_val rfl (rn_move) ?_
                  refine WR_val rfl (rn_add rfl rfl (Coup.w64 (by omega))) ?_
                  refine WR_val rfl (rn_assign) ?_
                  refine WR_nil ?_
                  refine loopN ⟨(i + 1, actV Y a), by simp only; omega, ⟨by go_num, rfl, rfl, rfl, rfl, rfl⟩, by simp only; omega, hY2, hYF2, by simp only; rw [hQ2]; exact hr9, hB⟩
              ·
                refine W_exit ?_
                refine thenX ?_
                refine loopX ?_
                refine blockX ?_
                refine thenN ?_
                refine W_seq ?_
                refine W_region ?_
                refine WR_ent rfl (rn_call (by kernel_rfl) rfl) (known13 wr) ?_
                rintro _ w113 ⟨rfl, hb113⟩
                replace hr9 := hr9.new hb113
                replace hB := hB.acc hb113
                refine WR_val rfl (rn_assign) ?_
                refine WR_nil ?_
                refine thenN ?_
                refine W_ret ?_
                refine ret_ret [_] ⟨rfl, trivial⟩ ?_
                exact ⟨rfl, hB⟩
end Go.Proofs.Ytjdcopfnhkfimaa
