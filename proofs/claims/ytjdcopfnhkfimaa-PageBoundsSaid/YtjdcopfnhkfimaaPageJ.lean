/- A page's records: put anew, taken out. -/
import Derived.Test.YtjdcopfnhkfimaaPageI
namespace Go.Proofs.Ytjdcopfnhkfimaa
open Go Go.RowKit Coup

def putE (V : View) (k : Int) (r : List UInt8) : Nat := if 400 < r.length then 3 else if hasV V.slots k then withE V k.toNat r else 6
def putP (V : View) (k : Int) (r : List UInt8) : List UInt8 := if putE V k r = 0 then bytesV (withV V k.toNat r) else zeroP
theorem hasV_some {S : List (Option (List UInt8))} {k : Int} (h : hasV S k = true) : ∃ (i : Nat) (r : List UInt8), k = (i : Int) ∧ S[i]? = some (some r) := by
  unfold hasV at h
  simp only [Bool.and_eq_true, decide_eq_true_eq] at h
  obtain ⟨h0, h2⟩ := h
  rw [List.getD_eq_getElem?_getD] at h2
  cases h3 : S[k.toNat]? with
  | none => rw [h3] at h2; cases h2
  | some s =>
    rw [h3] at h2
    cases s with
    | none => cases h2
    | some r => exact ⟨k.toNat, r, by omega, h3⟩
theorem hasV_of {S : List (Option (List UInt8))} {i : Nat} {r : List UInt8} (h : S[i]? = some (some r)) : hasV S (i : Int) = true := by
  rw [hasV, Int.toNat_natCast, List.getD_eq_getElem?_getD, h, decide_eq_true (by omega)]; rfl
theorem hasV_none {S : List (Option (List UInt8))} {i : Nat} (h : S[i]? = some none) : hasV S (i : Int) = false := by
  rw [hasV, Int.toNat_natCast, List.getD_eq_getElem?_getD, h]; simp
set_option maxHeartbeats 1000000 in
theorem put30 (V : View) (k : Int) (pr : Option Addr) (cr : Nat) (r : List UInt8) (w : World) (hV : Good V) (hr : SlAt w pr r.length 1 (bv r)) : Calls Try.prog 30 [.agg (bv (bytesV V)).toArray, .int .i64 k, .slice pr r.length cr].toArray w
    (Ret fun v w' => v = .tuple #[.agg (bv (putP V k r)).toArray, .int .i64 (putE V k r : Nat)] ∧ Below w.heap.size w w') := by
  have hB := Below.refl w.heap.size w
  have hR := read22' V
  have hbl := bytes_len hV
  have hW := with24' V
  have hWl := withP_len V k.toNat r
  have hPE : withE V k.toNat r = 0 ∨ withE V k.toNat r = 8 := by unfold withE; split <;> simp
  have hPE2 : (if withE V k.toNat r = 0 then bytesV (withV V k.toNat r) else zeroP) = withP V k.toNat r := by
    unfold withE withP; split <;> simp
  rw [putP, putE]
  have hW2 := fun p c cr B vs w h1 h2 h3 h4 h5 h6 => hW p pr c cr k.toNat B vs r w h1 h2 h3 h4 h5 h6 hV
  obtain ⟨P, hP⟩ : ∃ P, withP V k.toNat r = P := ⟨_, rfl⟩
  obtain ⟨E, hE⟩ : ∃ E, withE V k.toNat r = E := ⟨_, rfl⟩
  obtain ⟨R, hRr⟩ : ∃ R, bytesV (withV V k.toNat r) = R := ⟨_, rfl⟩
  rw [hP, hE] at hW2
  rw [hP] at hWl
  rw [hE] at hPE
  rw [hP, hE, hRr] at hPE2
  rw [hE, hRr]
  clear hW hP hE hRr
  generalize bytesV V = Q at hR hbl ⊢
  obtain ⟨Z, hzz, hzb, hzl⟩ := zeroQ
  rw [hzz] at hPE2 ⊢
  have h26 := has26 V
  obtain ⟨H, hH⟩ : ∃ H, hasV V.slots k = H := ⟨_, rfl⟩
  have hHs := hasV_some (S := V.slots) (k := k)
  have h26 := fun p c vs w lo o h1 h2 => h26 p c vs k w lo o h1 h2
  rw [hH] at hHs h26 ⊢
  refine calls_W (fn := Try.f30) (rs := [.cell 6 23, .tmp 7]) (n := 36) Try.func30 rfl rfl Try.ntmps30 (by kernel_rfl) rfl ?_
  refine W_seq ?_
  refine W_region ?_
  refine WR_mk rfl (mk_box ((bv Q)) rfl (fun g3 w3 hg3 hr3 hb3 => ?_))
  have ge_hB_g3 := Nat.le_trans hB.size hg3
  replace hB := hB.acc hb3
  refine WR_mk rfl (mk_alloc (List.replicate 512 (Value.int .u8 0)) (by kernel_rfl) (fun g6 w6 hg6 hr6 hb6 => ?_))
  have ge_hB_g6 := Nat.le_trans hB.size hg6
  have lt_g3_g6 : g3 < g6 := Nat.lt_of_lt_of_le hr3.lt hg6
  replace hr3 := hr3.new hb6
  replace hB := hB.acc hb6
  rw [hzb] at hr6
  refine WR_val rfl (rn_assign) ?_
  refine WR_nil ?_
  refine thenN ?_
  refine W_seq ?_
  refine W_region ?_
  refine WR_val rfl (rn_load rfl (Ld.rowA (k := 512) hr3 (by kernel_rfl) (by kernel_rfl) (by first | (simp; done) | (simp [bv_length, *]; done) | assumption))) ?_
  have hszlo := hB.size
  have l6 := hr6.lt
  have hBr := Below.refl w6.heap.size w6
  refine WR_ent rfl (rn_call (by kernel_rfl) rfl) (hR w6 hV) ?_
  rintro _ w12 ⟨p, c, vs, rfl, hv, hb12⟩
  replace hr3 := hr3.new hb12
  replace hr6 := hr6.new hb12
  replace hB := hB.acc hb12
  replace hBr := hBr.acc hb12
  refine WR_val rfl (rn_move) ?_
  refine WR_val rfl (rn_extract rfl rfl) ?_
  refine WR_val rfl (rn_extract rfl rfl) ?_
  have hv0 := hv
  refine WR_mk rfl (mk_alloc ([Value.int .i64 0, Value.int .i64 0, Value.slice none 0 0]) (by kernel_rfl) (fun g8 w8 hg8 hr8 hb8 => ?_))
  have ge_hB_g8 := Nat.le_trans hB.size hg8
  have ge_hBr_g8 := Nat.le_trans hBr.size hg8
  have lt_g3_g8 : g3 < g8 := Nat.lt_of_lt_of_le hr3.lt hg8
  have lt_g6_g8 : g6 < g8 := Nat.lt_of_lt_of_le hr6.lt hg8
  replace hr3 := hr3.new hb8
  replace hr6 := hr6.new hb8
  replace hv := hv.new hb8
  replace hB := hB.acc hb8
  replace hBr := hBr.acc hb8
  replace hv := (hv0.cons hg8).new hb8
  refine WR_sk rfl (sk_storeA 3 (vw V p c) rfl rfl hr8 (by kernel_rfl) (by first | assumption | (simp; done) | (simp [bv_length, *]; done)) (by first | assumption | (simp; done) | (simp [bv_length, *]; done) | rfl) (by first | exact bv_one _ | assumption | (simp [Value.oneCell']; done)) (fun w901 hr8 ho901 => ?_))
  replace hr3 := hr3.only ho901 (Nat.ne_of_lt lt_g3_g8)
  replace hr6 := hr6.only ho901 (Nat.ne_of_lt lt_g6_g8)
  replace hv := hv.only ho901 (by simp)
  replace hB := ho901.below hB ge_hB_g8
  replace hBr := ho901.below hBr ge_hBr_g8
  refine WR_val rfl (rn_assign) ?_
  refine WR_nil ?_
  refine thenN ?_
  refine W_seq ?_
  refine W_block ?_
  refine W_seq ?_
  refine W_region ?_
  refine WR_val rfl (rn_move) ?_
  refine WR_val rfl (rn_not rfl) ?_
  refine WR_val rfl (rn_assign) ?_
  refine WR_nil ?_
  refine thenN ?_
  refine W_fnb rfl (rfl) ?_
  refine W_seq ?_
  refine W_region ?_
  refine WR_val rfl (rn_move) ?_
  refine WR_val rfl (rn_lenSl (e := 5) (sz := 1) (by kernel_rfl) rfl rfl) ?_
  refine WR_val rfl (rn_gtr rfl rfl) ?_
  refine WR_val rfl (rn_assign) ?_
  refine WR_nil ?_
  refine thenN ?_
  refine W_ifp rfl (fun hlen => ?_) (fun hlen => ?_)
  ·
    refine W_seq ?_
    refine W_region ?_
    refine WR_val rfl (rn_zeroed (bv Z) (by rw [← hzb]; kernel_rfl)) ?_
    refine WR_sk rfl (sk_storeA 512 (bv Z) rfl rfl hr6 (by kernel_rfl) (by first | assumption | (simp; done) | (simp [bv_length, *]; done)) (by first | assumption | (simp; done) | (simp [bv_length, *]; done) | rfl) (by first | exact bv_one _ | assumption | (simp [Value.oneCell']; done)) (fun w902 hr6 ho902 => ?_))
    replace hr3 := hr3.only ho902 (Nat.ne_of_lt lt_g3_g6)
    replace hr8 := hr8.only ho902 (Nat.ne_of_gt lt_g6_g8)
    replace hB := ho902.below hB ge_hB_g6
    refine WR_val rfl (rn_assign) ?_
    refine WR_nil ?_
    refine thenN ?_
    refine W_ret ?_
    refine blockR ?_
    refine thenR ?_
    refine ret_ret [_, _] ⟨⟨_, rfl, Ld.rowA (k := 512) hr6 (by kernel_rfl) (by kernel_rfl) (by first | (simp; done) | (simp [bv_length, *]; done) | assumption)⟩, rfl, trivial⟩ ?_
    have hE0 : (if 400 < r.length then 3 else if H = true then E else 6) = 3 := if_pos (by omega)
    rw [hE0]
    exact ⟨rfl, hB⟩
  ·
    have hE0 : (if 400 < r.length then 3 else if H = true then E else 6) = if H = true then E else 6 := if_neg (by omega)
    rw [hE0]
    refine W_seq ?_
    refine W_region ?_
    refine WR_val rfl (rn_load rfl (Ld.rowA (k := 3) hr8 (by kernel_rfl) (by kernel_rfl) (by first | (simp; done) | (simp [bv_length, *]; done) | assumption))) ?_
    refine WR_val rfl (rn_move) ?_
    refine WR_ent rfl (rn_call (by kernel_rfl) rfl) (h26 p c vs w901 _ _ hv.own.sl hv.slts) ?_
    rintro _ w27 ⟨rfl, hb27⟩
    replace hr3 := hr3.new hb27
    replace hr6 := hr6.new hb27
    replace hv := hv.new hb27
    replace hr8 := hr8.new hb27
    replace hB := hB.acc hb27
    replace hBr := hBr.acc hb27
    refine WR_val rfl (rn_not rfl) ?_
    refine WR_val rfl (rn_assign) ?_
    refine WR_nil ?_
    refine thenN ?_
    refine W_ifnb rfl (fun hh => ?_) (fun hh => ?_)
    ·
      refine W_seq ?_
      refine W_region ?_
      refine WR_val rfl (rn_zeroed (bv Z) (by rw [← hzb]; kernel_rfl)) ?_
      refine WR_sk rfl (sk_storeA 512 (bv Z) rfl rfl hr6 (by kernel_rfl) (by first | assumption | (simp; done) | (simp [bv_length, *]; done)) (by first | assumption | (simp; done) | (simp [bv_length, *]; done) | rfl) (by first | exact bv_one _ | assumption | (simp [Value.oneCell']; done)) (fun w903 hr6 ho903 => ?_))
      replace hr3 := hr3.only ho903 (Nat.ne_of_lt lt_g3_g6)
      replace hr8 := hr8.only ho903 (Nat.ne_of_gt lt_g6_g8)
      replace hB := ho903.below hB ge_hB_g6
      refine WR_val rfl (rn_assign) ?_
      refine WR_nil ?_
      refine thenN ?_
      refine W_ret ?_
      refine blockR ?_
      refine thenR ?_
      refine ret_ret [_, _] ⟨⟨_, rfl, Ld.rowA (k := 512) hr6 (by kernel_rfl) (by kernel_rfl) (by first | (simp; done) | (simp [bv_length, *]; done) | assumption)⟩, rfl, trivial⟩ ?_
      rw [hh]
      exact ⟨rfl, hB⟩
    ·
      have hHk := hHs hh
      obtain ⟨i, r0, hki, hsi⟩ := hHk
      have hil := (List.getElem?_eq_some_iff.1 hsi).1
      subst hki
      simp only [Int.toNat_natCast] at hW2
      rw [hh, if_pos rfl, hPE2]
      refine W_skip ?_
      refine blockN ?_
      refine thenN ?_
      refine W_seq ?_
      refine W_region ?_
      refine WR_val rfl (rn_load rfl (Ld.rowA (k := 3) hr8 (by kernel_rfl) (by kernel_rfl) (by first | (simp; done) | (simp [bv_length, *]; done) | assumption))) ?_
      refine WR_val rfl (rn_move) ?_
      refine WR_val rfl (rn_move) ?_
      have hrr := fun w' hb => hr.below (w' := w') (hB.trans (Below.mono hb hszlo)) (Nat.le_refl _)
      refine WR_ent rfl (rn_call (by kernel_rfl) rfl) (hW2 p c cr _ vs w27 hv.own hv.out hBr.size hrr (by omega) (by omega)) ?_
      rintro _ w33 ⟨rfl, hb33⟩
      replace hB := hB.trans (hb33.mono hszlo)
      replace hr6 := hr6.below hb33 l6
      refine WR_val rfl (rn_extract rfl rfl) ?_
      refine WR_val rfl (rn_extract rfl rfl) ?_
      refine WR_sk rfl (sk_storeA 512 (bv P) rfl rfl hr6 (by kernel_rfl) (by first | assumption | (simp; done) | (simp [bv_length, *]; done)) (by first | assumption | (simp; done) | (simp [bv_length, *]; done) | rfl) (by first | exact bv_one _ | assumption | (simp [Value.oneCell']; done)) (fun w904 hr6 ho904 => ?_))
      replace hB := ho904.below hB ge_hB_g6
      refine WR_val rfl (rn_assign) ?_
      refine WR_nil ?_
      refine thenN ?_
      refine W_ret ?_
      refine ret_ret [_, _] ⟨⟨_, rfl, Ld.rowA (k := 512) hr6 (by kernel_rfl) (by kernel_rfl) (by first | (simp; done) | (simp [bv_length, *]; done) | assumption)⟩, rfl, trivial⟩ ?_
      exact ⟨rfl, hB⟩
end Go.Proofs.Ytjdcopfnhkfimaa
