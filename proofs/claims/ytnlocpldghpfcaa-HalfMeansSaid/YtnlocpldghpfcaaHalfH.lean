/- Sectors' halves, tags and torn sectors: the reference's. -/
import Derived.Test.YtnlocpldghpfcaaHalfG
namespace Go.Proofs.Ytnlocpldghpfcaa
open Go Go.RowKit Coup

def partsL (l : List UInt8) (m : Nat) : List (List UInt8) := (List.range m).map (halfAt l)
theorem partsL_succ (l : List UInt8) (m : Nat) : partsL l (m + 1) = partsL l m ++ [halfAt l m] := by simp [partsL, List.range_succ]
theorem partsL_get (l : List UInt8) (m i : Nat) (h : i < m) : (partsL l m)[i]? = some (halfAt l i) := by rw [partsL, List.getElem?_map, List.getElem?_range h]; rfl
theorem partsL_len (l : List UInt8) (m : Nat) : (partsL l m).length = m := by simp [partsL]

set_option maxHeartbeats 1000000 in
theorem parts35 (l : List UInt8) (p : Option Addr) (n cp : Nat) (w : World) (h : SlAt w p n 128 (bv l)) (hn : n ≤ 100000) :
    Calls Try.prog 35 [.slice p n cp].toArray w (Ret fun v w' => ∃ vs, ownsAt w' w.heap.size 25 1 v (2 * n) vs ∧ SlsAt w' w.heap.size v.ownBlock vs (partsL l (2 * n)) ∧ Below w.heap.size w w') := by
  have hB := Below.refl w.heap.size w
  have hl : l.length = n * 128 := by simpa [bv_length] using h.len
  refine calls_W (fn := Try.f35) (rs := [.tmp 2]) (n := 25) Try.func35 rfl rfl Try.ntmps35 (by kernel_rfl) rfl ?_
  refine W_seq ?_
  refine W_region ?_
  refine WR_val rfl (rn_assign) ?_
  refine WR_nil ?_
  refine thenN ?_
  refine W_seq ?_
  refine W_region ?_
  refine WR_val rfl (rn_assign) ?_
  refine WR_nil ?_
  refine thenN ?_
  refine W_seq ?_
  refine W_seq ?_
  refine W_region ?_
  refine WR_val rfl (rn_assign) ?_
  refine WR_nil ?_
  refine thenN ?_
  refine W_block ?_
  refine W_loop (α := Nat × Value × List Value) (0, .slice none 0 0, []) (fun k => [(3, k.2.1), (4, .int .i64 (k.1 : Nat)), (0, .slice p n cp)])
    (fun k w' => k.1 ≤ n ∧ ownsAt w' w.heap.size 25 1 k.2.1 (2 * k.1) k.2.2 ∧ SlsAt w' w.heap.size k.2.1.ownBlock k.2.2 (partsL l (2 * k.1)) ∧ Below w.heap.size w w') (fun k => n - k.1)
    ⟨rfl, rfl, rfl, rfl⟩ ⟨Nat.zero_le _, ownsAt_nil _ _ _ _, SlsAt.nil _ _ _, hB⟩ ?_
  rintro ⟨k, v3, vs⟩ f wr ⟨hk, hv3, hsl, hBr⟩
  simp only at hk hv3 hsl
  have hBi := Below.refl wr.heap.size wr
  have hszr := hBr.size
  have hlt3 := hv3.lt
  refine W_seq ?_
  refine W_seq ?_
  refine W_region ?_
  refine WR_val rfl (rn_move) ?_
  refine WR_val rfl (rn_move) ?_
  refine WR_val rfl (rn_lenSl (e := 48) (sz := 128) (by kernel_rfl) rfl rfl) ?_
  refine WR_val rfl (rn_lss rfl rfl) ?_
  refine WR_nil ?_
  refine thenN ?_
  refine W_ifp rfl (fun hlt => ?_) (fun hlt => ?_)
  ·
    refine W_skip ?_
    refine thenN ?_
    refine W_seq ?_
    refine W_block ?_
    have hobt := h.some (by omega)
    obtain ⟨gp, op, rfl, hgp⟩ := hobt
    have hby := (h.below hBr (Nat.le_refl _)).bytes (by unfold maxLen; omega)
    have ha := hby.subB (k * 128) 64 (by omega)
    have hb := hby.subB (k * 128 + 64) 64 (by omega)
    rw [show (l.drop (k * 128)).take 64 = halfAt l (2 * k) by rw [halfAt]; congr 2; omega] at ha
    rw [show (l.drop (k * 128 + 64)).take 64 = halfAt l (2 * k + 1) by rw [halfAt]; congr 2; omega] at hb
    have la : (halfAt l (2 * k)).length = 64 := halfAt_length _ _ (by omega)
    have lb : (halfAt l (2 * k + 1)).length = 64 := halfAt_length _ _ (by omega)
    refine W_draw' (v3.ownBlock.toList) (by kernel_rfl) ?_
    intro w901 hb901 hS901
    replace ha := ha.new hb901
    replace hb := hb.new hb901
    replace hBr := hBr.acc hb901
    replace hBi := hBi.acc hb901
    have ha_d901 := ha
    have hb_d901 := hb
    have hBr_d901 := hBr
    have hBi_d901 := hBi
    refine WA_take 0 (by kernel_rfl) rfl (fun _ _ => rn_move) ?_
    refine WA_take 1 (by kernel_rfl) rfl (fun _ _ => rn_move) ?_
    refine WA_take 2 (by kernel_rfl) rfl (fun _ _ => rn_move) ?_
    refine WA_take 3 (by kernel_rfl) rfl (fun _ _ => rn_indexSl (e := 48) (sz := 128) (by kernel_rfl) rfl rfl (k) (by omega) (by omega)) ?_
    refine WA_take 4 (by kernel_rfl) rfl (fun _ _ => rn_sliceAr1' (e := 5) (0) (64) (128) (64) (by kernel_rfl) rfl rfl ⟨_, _, rfl, rfl⟩ rfl (by simp) (by omega) (by omega) (by omega) (by omega) (by omega)) ?_
    refine WA_take 6 (by kernel_rfl) rfl (fun _ _ => rn_move) ?_
    refine WA_take 7 (by kernel_rfl) rfl (fun _ _ => rn_move) ?_
    refine WA_take 8 (by kernel_rfl) rfl (fun _ _ => rn_indexSl (e := 48) (sz := 128) (by kernel_rfl) rfl rfl (k) (by omega) (by omega)) ?_
    refine WA_take 9 (by kernel_rfl) rfl (fun _ _ => rn_sliceAr1' (e := 5) (64) (128) (128) (64) (by kernel_rfl) rfl ⟨_, _, rfl, rfl⟩ rfl rfl (by simp) (by omega) (by omega) (by omega) (by omega) (by omega)) ?_
    refine WA_one 5 (by kernel_rfl) ?_
    have hsz901 := hBi.size
    refine WO_mk rfl rfl (mk_append (e := 5) (sz := 1) (bytes := 1) (z := Value.int .u8 0) (by kernel_rfl) rfl (by kernel_rfl) rfl (by decide) rfl (ownsAt_nil w901 w901.heap.size 5 1) rfl ha (bv_one _) (by unfold maxLen; omega) (by omega) (fun _ => Nat.le_refl _) (fun v16 w16 hv16 hgr16 hfr16 => ?_))
    have hb16 := below_of_nil hgr16
    have hS902 := hS901.add0 hb16
    refine ⟨hS902, ?_⟩
    replace ha := ha.new hb16
    replace hb := hb.new hb16
    replace hBr := hBr.acc hb16
    replace hBi := hBi.acc hb16
    have hobt := hv16.form' (by omega)
    obtain ⟨g16, o16, c16, rfl, l16, m16, hc16⟩ := hobt
    have hx16 := hv16.sl
    refine WA_one 10 (by kernel_rfl) ?_
    refine WO_mk rfl rfl (mk_append (e := 5) (sz := 1) (bytes := 1) (z := Value.int .u8 0) (by kernel_rfl) rfl (by kernel_rfl) rfl (by decide) rfl (ownsAt_nil w16 w16.heap.size 5 1) rfl hb (bv_one _) (by unfold maxLen; omega) (by omega) (fun _ => Nat.le_refl _) (fun v21 w21 hv21 hgr21 hfr21 => ?_))
    have hb21 := below_of_nil hgr21
    have hS903 := hS902.add0 hb21
    refine ⟨hS903, ?_⟩
    replace ha := ha.new hb21
    replace hb := hb.new hb21
    replace hx16 := hx16.new hb21
    replace hBr := hBr.acc hb21
    replace hBi := hBi.acc hb21
    have hobt := hv21.form' (by omega)
    obtain ⟨g21, o21, c21, rfl, l21, m21, hc21⟩ := hobt
    have hx21 := hv21.sl
    refine WA_one 11 (by kernel_rfl) ?_
    refine WO_mk rfl rfl (mk_two (e := 25) (.slice (some ⟨g16, o16, none⟩) (0 + 64) c16) (.slice (some ⟨g21, o21, none⟩) (0 + 64) c21) ([.slice (some ⟨g16, o16, none⟩) (0 + 64) c16]) ([.slice (some ⟨g21, o21, none⟩) (0 + 64) c21]) ([Value.slice none 0 0]) 1 (by kernel_rfl) (by kernel_rfl) rfl rfl rfl rfl (by first | rfl | (simp; done) | (simp [bv_length, *]; done)) (by first | rfl | (simp; done) | (simp [bv_length, *]; done)) ⟨by decide, by decide⟩ (fun g22 w22 hg22 hr22 hb22 => ?_))
    have hS904 := hS903.add0 hb22
    refine ⟨hS904, ?_⟩
    have ge_hS903_g22 := Nat.le_trans hS903.size hg22
    have ge_hBr_g22 := Nat.le_trans hBr.size hg22
    have ge_hBi_g22 := Nat.le_trans hBi.size hg22
    replace ha := ha.new hb22
    replace hb := hb.new hb22
    replace hx16 := hx16.new hb22
    replace hx21 := hx21.new hb22
    replace hBr := hBr.acc hb22
    replace hBi := hBi.acc hb22
    refine WA_one 12 (by kernel_rfl) ?_
    have hs22 := hr22.slA (m := 2) (sz := 1) rfl (by unfold maxLen; omega)
    have hv3 := hv3.new hBi
    have hsl := hsl.new hBi
    have hbsz := hb22.size
    have h16b := hx16.some (by omega)
    have hBs := hBi.size
    have sz_hBr_23 := hBr.size
    refine WO_mk rfl rfl (mk_append (e := 25) (sz := 1) (bytes := 24) (z := Value.slice none 0 0) (by kernel_rfl) rfl (by kernel_rfl) rfl (by decide) rfl hv3 rfl hs22 (by simp [Value.oneCell']) (by unfold maxLen; omega) (by omega) (fun hm0 => by omega) (fun v23 w23 hv23 hgr23 hfr23 => ?_))
    have hS905 := hS904.ownS hv3 hgr23 (by first | (left; omega) | exact Or.inr (fun _ h => h))
    refine ⟨hS905, ?_⟩
    replace hBr := hBr.own hv3 hgr23 (by omega)
    refine WA_take 13 (by kernel_rfl) rfl (fun _ _ => rn_assign) ?_
    refine WA_done (by kernel_rfl) ?_
    refine blockN ?_
    refine thenN ?_
    refine W_region ?_
    refine WR_val rfl (rn_move) ?_
    refine WR_val rfl (rn_add rfl rfl (Coup.w64 (by omega))) ?_
    refine WR_val rfl (rn_assign) ?_
    refine WR_nil ?_
    have n16 : some g16 ≠ v3.ownBlock := fun e => by have := (hlt3 g16 e.symm).2; omega
    have n21 : some g21 ≠ v3.ownBlock := fun e => by have := (hlt3 g21 e.symm).2; omega
    simp only [List.nil_append, Nat.zero_add] at hx16 hx21 hv23
    have hy16 := hx16.kpd (Kp.of_grown hgr23) (fun b' o' e hm => by
      cases e
      simp only [Option.mem_toList] at hm
      exact n16 hm.symm)
    have hy21 := hx21.kpd (Kp.of_grown hgr23) (fun b' o' e hm => by
      cases e
      simp only [Option.mem_toList] at hm
      exact n21 hm.symm)
    have hg23 := hgr23.size
    rw [← la] at hy16
    rw [← lb] at hy21
    have hsl2 := ((hsl.grow hgr23 hfr23).snoc (c := c16) hy16 (by omega) (fun e => (hfr23 g16 e.symm).elim (fun e' => n16 e'.symm) (fun e' => by omega)) (by omega) (by omega)).snoc (c := c21) hy21 (by omega) (fun e => (hfr23 g21 e.symm).elim (fun e' => n21 e'.symm) (fun e' => by omega)) (by omega) (by omega)
    refine loopN ⟨(k + 1, v23, vs ++ [.slice (some ⟨g16, o16, none⟩) 64 c16, .slice (some ⟨g21, o21, none⟩) 64 c21]), by simp only; omega, ⟨rfl, by go_num, rfl, rfl⟩, by simp only; omega, hv23, ?_, hBr⟩
    simp only
    rw [show 2 * (k + 1) = 2 * k + 1 + 1 by omega, partsL_succ, partsL_succ]
    rw [la, lb] at hsl2
    simpa using hsl2
  ·
    refine W_exit ?_
    refine thenX ?_
    refine loopX ?_
    refine blockX ?_
    refine thenN ?_
    refine W_seq ?_
    refine W_region ?_
    refine WR_val rfl (rn_move) ?_
    refine WR_val rfl (rn_assign) ?_
    refine WR_nil ?_
    refine thenN ?_
    refine W_ret ?_
    refine ret_ret [_] ⟨rfl, trivial⟩ ?_
    obtain rfl : k = n := by omega
    exact ⟨vs, hv3, hsl, hBr⟩
end Go.Proofs.Ytnlocpldghpfcaa
