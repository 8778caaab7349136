/- Lists of acts that came in; are there few; two that begin; do both look the same. -/
import Derived.Test.YtpndhildmfmcgaaDiskV
import Derived.Test.YtpndhildmfmcgaaVm18
namespace Go.Proofs.Ytpndhildmfmcgaa
open Go Go.RowKit Coup Go.ChangeShapes Go.WideShapes Go.Deep

def wf64 (i : Int) : Prop := -9223372036854775808 ≤ i ∧ i ≤ 9223372036854775807
/-- The cells of an act that came in. -/
def AcQ (W : World) (a : AcT) (cs : List Value) : Prop := ∃ q cp, cs = acC a q cp ∧ a.s.length = 128 ∧ SlAt W q a.picks.length 1 (iv a.picks) ∧ okI a.picks ∧ wf64 a.kind ∧ wf64 a.at_ ∧ wf64 a.n ∧ a.picks.length ≤ cp
theorem acQ_opn {H : Type} {enc : TypeId × Value → H} {W : World} {base : Nat} {spare : Nat → Bool} {held : Bool} : Opn enc Try.prog W base spare held 37 (AcQ W) := fun fuel cs x h => by
  obtain ⟨hl, m, hf⟩ := opn_flds Try.underlying37 h
  have hl2 : cs.length = 132 := hl.trans (by kernel_rfl)
  obtain ⟨_, h0⟩ := fld hf 0 0 1 rfl rfl (by kernel_rfl)
  obtain ⟨_, h1⟩ := fld hf 1 1 1 rfl rfl (by kernel_rfl)
  obtain ⟨_, h2⟩ := fld hf 2 2 1 rfl rfl (by kernel_rfl)
  obtain ⟨_, h3⟩ := fld hf 3 3 128 rfl rfl (by kernel_rfl)
  obtain ⟨_, h4⟩ := fld hf 4 131 1 rfl rfl (by kernel_rfl)
  obtain ⟨a, e0, w0⟩ := opn_int (by kernel_rfl) _ _ _ h0
  obtain ⟨b, e1, w1⟩ := opn_int (by kernel_rfl) _ _ _ h1
  obtain ⟨c, e2, w2⟩ := opn_int (by kernel_rfl) _ _ _ h2
  obtain ⟨s, e3, w3⟩ := opn_bytes (e := 5) (n := 128) (by kernel_rfl) (by kernel_rfl) (by kernel_rfl) (by kernel_rfl) _ _ _ h3
  obtain ⟨R, q, cp, e4, hcp, hR⟩ := opn_slice (e := 3) (n := 1) (by kernel_rfl) (by kernel_rfl) (opn_int (k := .i64) (by kernel_rfl)) _ _ _ h4
  obtain ⟨hR1, hR2⟩ := el_ints hR
  refine ⟨⟨a, b, c, s, R⟩, q, cp, ?_, w3, hR1, hR2, i64_of_wf w0, i64_of_wf w1, i64_of_wf w2, hcp⟩
  have k0 := cut_at cs 0 1
  have k1 := cut_at cs 1 1
  have k2 := cut_at cs 2 1
  have k3 := cut_at cs 3 128
  have k4 := cut_at cs 131 1
  rw [e0] at k0
  rw [e1] at k1
  rw [e2] at k2
  rw [e3] at k3
  rw [e4, List.drop_of_length_le (l := cs) (i := 131 + 1) (by omega), List.append_nil] at k4
  rw [k4] at k3
  rw [k3] at k2
  rw [k2] at k1
  rw [k1] at k0
  rw [List.drop_zero] at k0
  exact k0
theorem openRows {H : Type} {enc : TypeId × Value → H} {W : World} {a : Option Addr} {len cap : Nat} {d : DataW H} {p : List MemPlace} (h : DataW.Trod enc Try.prog W 0 (fun _ => true) true 22 (.slice a len cap) d p) : (∃ R, ElsAt (AcQ W) W 132 a len R) ∧ len ≤ cap :=
  opn_arg (by kernel_rfl) (by kernel_rfl) acQ_opn h
theorem AcQ.below {w w' : World} {a : AcT} {cs : List Value} (h : AcQ w a cs) (hb : Below w.heap.size w w') : AcQ w' a cs := by
  obtain ⟨q, cp, h1, h2, h3, h4⟩ := h
  exact ⟨q, cp, h1, h2, h3.below hb (Nat.le_refl _), h4⟩
/-- A list of acts in memory. -/
abbrev AcsAt (w : World) (p : Option Addr) (n : Nat) (R : List AcT) : Prop := ElsAt (AcQ w) w 132 p n R
theorem acsBelow {w w' : World} {p : Option Addr} {n : Nat} {R : List AcT} (h : AcsAt w p n R) (hb : Below w.heap.size w w') : AcsAt w' p n R := ElsAt.to h hb fun _ _ hq => hq.below hb
def fewA (R : List AcT) (most : Nat) : Prop := R.length ≤ most ∧ ∀ a ∈ R, a.picks.length ≤ 100
theorem few9 (p : Option Addr) (n cp most : Nat) (R : List AcT) (w : World) (h : AcsAt w p n R) (hm : most ≤ 1000) :
    Calls Try.prog 9 [.slice p n cp, .int .i64 (most : Int)].toArray w (Ret fun v w' => ∃ B : Bool, v = .bool B ∧ (B = true → fewA R most) ∧ w = w') := by
  have hmax := h.max
  have hml : maxLen = 9223372036854775807 := by decide
  have hRl := h.1
  refine calls_W (fn := Try.f9) (rs := [.tmp 4]) (n := 23) Try.func9 rfl rfl Try.ntmps9 (by kernel_rfl) rfl ?_
  refine W_seq ?_
  refine W_region ?_
  refine WR_val rfl (rn_assign) ?_
  refine WR_nil ?_
  refine thenN ?_
  refine W_seq ?_
  refine W_seq ?_
  refine W_region ?_
  refine WR_val rfl (rn_assign) ?_
  refine WR_nil ?_
  refine thenN ?_
  refine W_block ?_
  refine W_loop (α := Nat) 0 (fun i => [(5, .int .i64 (i : Nat)), (0, .slice p n cp), (1, .int .i64 (most : Int))]) (fun i w' => i ≤ n ∧ (∀ (j : Nat) (a : AcT), j < i → R[j]? = some a → a.picks.length ≤ 100) ∧ w = w') (fun i => n - i)
    ⟨rfl, rfl, rfl, rfl⟩ ⟨Nat.zero_le _, (by intro j x hj; exact absurd hj (Nat.not_lt_zero _)), rfl⟩ ?_
  rintro i f wr ⟨hi, hall, rfl⟩
  refine W_seq ?_
  refine W_seq ?_
  refine W_region ?_
  refine WR_val rfl (rn_move) ?_
  refine WR_val rfl (rn_move) ?_
  refine WR_val rfl (rn_lenSl (e := 37) (sz := 132) (by kernel_rfl) rfl rfl) ?_
  refine WR_val rfl (rn_lss rfl rfl) ?_
  refine WR_nil ?_
  refine thenN ?_
  refine W_ifp rfl (fun hlt => ?_) (fun hlt => ?_)
  ·
    refine W_skip ?_
    refine thenN ?_
    refine W_seq ?_
    refine W_block ?_
    refine W_seq ?_
    have hobt := h.get (i := i) (by omega)
    obtain ⟨a, hx⟩ := hobt
    have hobt := h.some (by omega)
    obtain ⟨g, o, rfl, hg⟩ := hobt
    have hobt := h.el hx
    obtain ⟨cs, ⟨q, qc, e1, e2, e3, e4⟩, hcl, hcell⟩ := hobt
    have hc := hcell 131 (.slice q a.picks.length qc) (by rw [e1]; show (bv a.s ++ [Value.slice q a.picks.length qc])[128]? = _; rw [List.getElem?_append_right (by rw [bv_length]; omega), bv_length, e2]; rfl)
    refine W_region ?_
    refine WR_val rfl (rn_move) ?_
    refine WR_val rfl (rn_move) ?_
    refine WR_val rfl (rn_indexSl (e := 37) (sz := 132) (by kernel_rfl) rfl rfl (i) (by omega) (by omega)) ?_
    refine WR_val rfl (rn_fieldAddr (off := 131) (by kernel_rfl) rfl) ?_
    refine WR_val rfl (rn_load rfl (Ld.one (by kernel_rfl) hc)) ?_
    refine WR_val rfl (rn_lenSl (e := 3) (sz := 1) (by kernel_rfl) rfl rfl) ?_
    refine WR_val rfl (rn_gtr rfl rfl) ?_
    refine WR_nil ?_
    refine thenN ?_
    refine W_ifp rfl (fun hl => ?_) (fun hl => ?_)
    ·
      refine W_seq ?_
      refine W_region ?_
      refine WR_val rfl (rn_assign) ?_
      refine WR_nil ?_
      refine thenN ?_
      refine W_ret ?_
      refine blockR ?_
      refine thenR ?_
      refine loopR ?_
      refine blockR ?_
      refine thenR ?_
      refine ret_ret [_] ⟨rfl, trivial⟩ ?_
      exact ⟨false, rfl, (by intro q; cases q), rfl⟩
    ·
      refine W_skip ?_
      refine blockN ?_
      refine thenN ?_
      refine W_region ?_
      refine WR_val rfl (rn_move) ?_
      refine WR_val rfl (rn_add rfl rfl (Coup.w64 (by omega))) ?_
      refine WR_val rfl (rn_assign) ?_
      refine WR_nil ?_
      refine loopN ⟨i + 1, by omega, ⟨by go_num, rfl, rfl, rfl⟩, by omega, ?_, rfl⟩
      intro j x hj hx'
      rcases Nat.lt_or_ge j i with h1 | h1
      · exact hall j x h1 hx'
      · obtain rfl : j = i := by omega
        rw [hx] at hx'; cases hx'
        omega
  ·
    refine W_exit ?_
    refine thenX ?_
    refine loopX ?_
    refine blockX ?_
    refine thenN ?_
    refine W_seq ?_
    refine W_region ?_
    refine WR_val rfl (rn_move) ?_
    refine WR_val rfl (rn_lenSl (e := 37) (sz := 132) (by kernel_rfl) rfl rfl) ?_
    refine WR_val rfl (rn_move) ?_
    refine WR_val rfl (rn_leq rfl rfl) ?_
    refine WR_val rfl (rn_assign) ?_
    refine WR_nil ?_
    refine thenN ?_
    refine W_ret ?_
    refine ret_ret [_] ⟨rfl, trivial⟩ ?_
    refine ⟨_, rfl, fun hd => ?_, rfl⟩
    have := of_decide_eq_true hd
    refine ⟨by omega, fun a ha => ?_⟩
    have hobt := List.getElem?_of_mem ha
    obtain ⟨j, hj⟩ := hobt
    exact hall j a (by have := (List.getElem?_eq_some_iff.1 hj).1; omega) hj
/-- Two that begin. -/
theorem begin12 (n : Nat) (w : World) (h1 : 1 ≤ n) (h2 : n ≤ 8192) :
    Calls Try.prog 12 [.int .i64 (n : Int)].toArray w (Ret fun v w' => ∃ g h, v = .tuple #[.pointer (some ⟨g, 0, none⟩), .pointer (some ⟨h, 0, none⟩), .bool true] ∧ Two (DZ g (newD n)) (RZ h (newD n)) w.heap.size [] w' ∧ Below w.heap.size w w') := by
  have hB := Below.refl w.heap.size w
  refine calls_W (fn := Try.f12) (rs := [.tmp 2, .tmp 3, .tmp 4]) (n := 21) Try.func12 rfl rfl Try.ntmps12 (by kernel_rfl) rfl ?_
  refine W_seq ?_
  refine W_region ?_
  refine WR_val rfl (rn_assign) ?_
  refine WR_val rfl (rn_assign) ?_
  refine WR_val rfl (rn_assign) ?_
  refine WR_nil ?_
  refine thenN ?_
  refine W_seq ?_
  refine W_region ?_
  refine WR_val rfl (rn_move) ?_
  refine WR_ent rfl (rn_call (by kernel_rfl) rfl) (newC n h1 h2) ?_
  rintro _ w9 ⟨g, B, rfl, hX, hBlo, hb9⟩
  replace hB := hB.acc hb9
  have hD : Two (DZ g (newD n)) None w.heap.size [] w9 := Two.one hX (fun b hb => ⟨hBlo b hb, by simp⟩) hB.size (by simp)
  have hDw := hD
  refine WR_val rfl (rn_move) ?_
  refine WR_val rfl (rn_extract rfl rfl) ?_
  refine WR_val rfl (rn_extract rfl rfl) ?_
  refine WR_val rfl (rn_assign) ?_
  refine WR_val rfl (rn_assign) ?_
  refine WR_nil ?_
  refine thenN ?_
  refine W_seq ?_
  refine W_region ?_
  refine WR_val rfl (rn_move) ?_
  refine WR_val rfl (rn_move) ?_
  refine WR_ent rfl (rn_call (by kernel_rfl) rfl) (rnew29 n w9 h1 h2) ?_
  rintro _ w14 ⟨h, C, rfl, hY, hClo, hb14⟩
  replace hB := hB.acc hb14
  have hD2 := Two.add (Y := RZ h (newD n)) hD hb14 hY hClo
  refine WR_val rfl (rn_move) ?_
  refine WR_val rfl (rn_eql rfl rfl) ?_
  refine WR_val rfl (rn_move) ?_
  refine WR_tp 17 rfl (rfl) ?_
  refine WR_yes rfl ?_
  refine WR_val rfl (rn_move) ?_
  refine WR_yes rfl ?_
  refine WR_val rfl (rn_neqP1 (by kernel_rfl) rfl rfl) ?_
  refine WR_val rfl (rn_pick_t rfl) ?_
  refine WR_val rfl (rn_assign) ?_
  refine WR_val rfl (rn_assign) ?_
  refine WR_val rfl (rn_assign) ?_
  refine WR_nil ?_
  refine thenN ?_
  refine W_ret ?_
  refine ret_ret [_, _, _] ⟨rfl, rfl, rfl, trivial⟩ ?_
  exact ⟨g, h, rfl, hD2, hB⟩
set_option maxRecDepth 8000 in
set_option maxHeartbeats 1000000 in
theorem same14 {g h lo : Nat} {L : List Nat} {D : Dk} {w : World} (hD : Two (DZ g D) (RZ h D) lo L w) :
    Calls Try.prog 14 [.pointer (some ⟨g, 0, none⟩), .pointer (some ⟨h, 0, none⟩)].toArray w (Ret fun v w' => v = .bool true ∧ Below w.heap.size w w') := by
  have hB := Below.refl w.heap.size w
  have hok := tOk hD
  have hn8 := hok.1.n
  have hoil := opI_len D
  have hoc : (opN D).length ≤ D.V.length := Nat.le_trans (List.length_filter_le _ _) (by rw [List.length_range]; exact Nat.le_refl _)
  obtain ⟨Z, hzz, hzb, hzl⟩ := zeroSQ
  obtain ⟨pv, ov, cv, hr⟩ := uRow hD
  refine calls_W (fn := Try.f14) (rs := [.tmp 4]) (n := 78) Try.func14 rfl rfl Try.ntmps14 (by kernel_rfl) rfl ?_
  refine W_seq ?_
  refine W_region ?_
  refine WR_val rfl (rn_assign) ?_
  refine WR_nil ?_
  refine thenN ?_
  refine W_seq ?_
  refine W_region ?_
  refine WR_val rfl (rn_move) ?_
  refine WR_ent rfl (rn_call (by kernel_rfl) rfl) (tOpen hD) ?_
  rintro _ w12 ⟨p, c, rfl, hsl, hpb, hb12⟩
  replace hD := hD.new hb12
  replace hr := hr.new hb12
  replace hB := hB.acc hb12
  refine WR_val rfl (rn_move) ?_
  refine WR_ent rfl (rn_call (by kernel_rfl) rfl) (uOpen hD) ?_
  rintro _ w14 ⟨p2, c2, rfl, hsl2, hpb2, hb14⟩
  replace hD := hD.new hb14
  replace hr := hr.new hb14
  replace hsl := hsl.new hb14
  replace hB := hB.acc hb14
  refine WR_val rfl (rn_assign) ?_
  refine WR_val rfl (rn_assign) ?_
  refine WR_nil ?_
  refine thenN ?_
  refine W_seq ?_
  refine W_seq ?_
  refine W_draw' [] (by kernel_rfl) ?_
  intro w901 hb901 hS901
  replace hD := hD.new hb901
  replace hr := hr.new hb901
  replace hsl := hsl.new hb901
  replace hsl2 := hsl2.new hb901
  replace hB := hB.acc hb901
  have hD_d901 := hD
  have hr_d901 := hr
  have hsl_d901 := hsl
  have hsl2_d901 := hsl2
  have hB_d901 := hB
  refine WA_take 0 (by kernel_rfl) rfl (fun _ _ => rn_move) ?_
  refine WA_call 1 (by kernel_rfl) rfl (fun _ => rn_call (by kernel_rfl) rfl) (fun w' hS' => tSectors (hD_d901.kpd hS' (by first | (simp; done) | (simp; omega) | (simp [*]; done) | exact notLL (Or.inl (by omega)) | exact notLL (Or.inr (by simp)) | exact fun g hm => Nat.le_trans (by omega) (inLL hm).1 | (intro b o e; cases e; exact notLL (Or.inl (by omega)))))) ?_
  refine WA_take 2 (by kernel_rfl) rfl (fun _ _ => rn_move) ?_
  refine WA_take 3 (by kernel_rfl) rfl (fun _ _ => rn_nilCheckP rfl) ?_
  refine WA_take 4 (by kernel_rfl) rfl (fun _ _ => rn_fieldAddr (off := 0) (by kernel_rfl) rfl) ?_
  refine WA_take 5 (by kernel_rfl) rfl (fun w' hS' => rn_load rfl (Ld.row1 (hr_d901.kpd hS' (by first | (simp; done) | (simp; omega) | (simp [*]; done) | exact notLL (Or.inl (by omega)) | exact notLL (Or.inr (by simp)) | exact fun g hm => Nat.le_trans (by omega) (inLL hm).1 | (intro b o e; cases e; exact notLL (Or.inl (by omega))))) (by kernel_rfl) rfl)) ?_
  refine WA_take 6 (by kernel_rfl) rfl (fun _ _ => rn_lenSl (e := 52) (sz := 1) (by kernel_rfl) rfl rfl) ?_
  refine WA_take 7 (by kernel_rfl) rfl (fun _ _ => rn_neq rfl rfl) ?_
  refine WA_take 8 (by kernel_rfl) rfl (fun _ _ => rn_move) ?_
  refine WA_fp 23 rfl ((by omega)) ?_
  refine WA_take 9 (by kernel_rfl) rfl (fun _ _ => rn_move) ?_
  refine WA_call 10 (by kernel_rfl) rfl (fun _ => rn_call (by kernel_rfl) rfl) (fun w' hS' => tDead (hD_d901.kpd hS' (by first | (simp; done) | (simp; omega) | (simp [*]; done) | exact notLL (Or.inl (by omega)) | exact notLL (Or.inr (by simp)) | exact fun g hm => Nat.le_trans (by omega) (inLL hm).1 | (intro b o e; cases e; exact notLL (Or.inl (by omega)))))) ?_
  refine WA_take 11 (by kernel_rfl) rfl (fun _ _ => rn_move) ?_
  refine WA_take 12 (by kernel_rfl) rfl (fun _ _ => rn_nilCheckP rfl) ?_
  refine WA_take 13 (by kernel_rfl) rfl (fun _ _ => rn_fieldAddr (off := 2) (by kernel_rfl) rfl) ?_
  refine WA_take 14 (by kernel_rfl) rfl (fun w' hS' => rn_load rfl (Ld.row1 (hr_d901.kpd hS' (by first | (simp; done) | (simp; omega) | (simp [*]; done) | exact notLL (Or.inl (by omega)) | exact notLL (Or.inr (by simp)) | exact fun g hm => Nat.le_trans (by omega) (inLL hm).1 | (intro b o e; cases e; exact notLL (Or.inl (by omega))))) (by kernel_rfl) rfl)) ?_
  refine WA_take 15 (by kernel_rfl) rfl (fun _ _ => rn_neqb (by kernel_rfl) rfl rfl) ?_
  refine WA_take 16 (by kernel_rfl) rfl (fun _ _ => rn_pick_f rfl) ?_
  refine WA_take 17 (by kernel_rfl) rfl (fun _ _ => rn_move) ?_
  refine WA_fb 32 rfl ((by simp)) ?_
  refine WA_take 18 (by kernel_rfl) rfl (fun _ _ => rn_move) ?_
  refine WA_take 19 (by kernel_rfl) rfl (fun _ _ => rn_lenSl (e := 3) (sz := 1) (by kernel_rfl) rfl rfl) ?_
  refine WA_take 20 (by kernel_rfl) rfl (fun _ _ => rn_move) ?_
  refine WA_take 21 (by kernel_rfl) rfl (fun _ _ => rn_lenSl (e := 3) (sz := 1) (by kernel_rfl) rfl rfl) ?_
  refine WA_take 22 (by kernel_rfl) rfl (fun _ _ => rn_neq rfl rfl) ?_
  refine WA_take 23 (by kernel_rfl) rfl (fun _ _ => rn_pick_f rfl) ?_
  refine WA_done (by kernel_rfl) ?_
  refine thenN ?_
  refine W_fp rfl ((by omega)) ?_
  refine W_skip ?_
  refine thenN ?_
  refine W_seq ?_
  refine W_seq ?_
  refine W_region ?_
  refine WR_val rfl (rn_assign) ?_
  refine WR_nil ?_
  refine thenN ?_
  refine W_block ?_
  refine W_loop (α := Nat) 0 (fun k => [(7, .int .i64 (k : Nat)), (5, .slice p (opI D).length c), (6, .slice p2 (opI D).length c2), (0, .pointer (some ⟨g, 0, none⟩)), (1, .pointer (some ⟨h, 0, none⟩))])
    (fun k w' => k ≤ (opN D).length ∧ Two (DZ g D) (RZ h D) lo L w' ∧ SlAt w' p (opI D).length 1 (iv (opI D)) ∧ SlAt w' p2 (opI D).length 1 (iv (opI D)) ∧ Below w.heap.size w w') (fun k => (opN D).length - k)
    ⟨rfl, rfl, rfl, rfl, rfl, rfl⟩ ⟨Nat.zero_le _, hD, hsl, hsl2, hB⟩ ?_
  clear hD hsl hsl2 hB
  rintro k f wr ⟨hk, hD, hsl, hsl2, hB⟩
  refine W_seq ?_
  refine W_seq ?_
  refine W_region ?_
  refine WR_val rfl (rn_move) ?_
  refine WR_val rfl (rn_move) ?_
  refine WR_val rfl (rn_lenSl (e := 3) (sz := 1) (by kernel_rfl) rfl rfl) ?_
  refine WR_val rfl (rn_lss rfl rfl) ?_
  refine WR_nil ?_
  refine thenN ?_
  refine W_ifp rfl (fun hlt => ?_) (fun hlt => ?_)
  ·
    refine W_skip ?_
    refine thenN ?_
    refine W_seq ?_
    refine W_block ?_
    refine W_seq ?_
    have hobt := opI_at (D := D) (k := k) (by omega)
    obtain ⟨i, hik, hiv, hil⟩ := hobt
    have hobt := hsl.some (by omega)
    obtain ⟨gp, op, rfl, hgp⟩ := hobt
    have hobt := hsl2.some (by omega)
    obtain ⟨gq, oq, rfl, hgq⟩ := hobt
    refine W_draw' [] (by kernel_rfl) ?_
    intro w902 hb902 hS902
    replace hD := hD.new hb902
    replace hsl := hsl.new hb902
    replace hsl2 := hsl2.new hb902
    replace hB := hB.acc hb902
    have hD_d902 := hD
    have hsl_d902 := hsl
    have hsl2_d902 := hsl2
    have hB_d902 := hB
    refine WA_take 0 (by kernel_rfl) rfl (fun _ _ => rn_move) ?_
    refine WA_take 1 (by kernel_rfl) rfl (fun _ _ => rn_move) ?_
    refine WA_take 2 (by kernel_rfl) rfl (fun _ _ => rn_indexSl1 (e := 3) (by kernel_rfl) rfl rfl (k) (by omega) (by omega)) ?_
    refine WA_take 3 (by kernel_rfl) rfl (fun w' hS' => rn_load rfl (Ld.sl1 (hsl_d902.kpd hS' (by first | (simp; done) | (simp; omega) | (simp [*]; done) | exact notLL (Or.inl (by omega)) | exact notLL (Or.inr (by simp)) | exact fun g hm => Nat.le_trans (by omega) (inLL hm).1 | (intro b o e; cases e; exact notLL (Or.inl (by omega))))) (by kernel_rfl) hiv)) ?_
    refine WA_take 4 (by kernel_rfl) rfl (fun _ _ => rn_move) ?_
    refine WA_take 5 (by kernel_rfl) rfl (fun _ _ => rn_move) ?_
    refine WA_take 6 (by kernel_rfl) rfl (fun _ _ => rn_indexSl1 (e := 3) (by kernel_rfl) rfl rfl (k) (by omega) (by omega)) ?_
    refine WA_take 7 (by kernel_rfl) rfl (fun w' hS' => rn_load rfl (Ld.sl1 (hsl2_d902.kpd hS' (by first | (simp; done) | (simp; omega) | (simp [*]; done) | exact notLL (Or.inl (by omega)) | exact notLL (Or.inr (by simp)) | exact fun g hm => Nat.le_trans (by omega) (inLL hm).1 | (intro b o e; cases e; exact notLL (Or.inl (by omega))))) (by kernel_rfl) hiv)) ?_
    refine WA_take 8 (by kernel_rfl) rfl (fun _ _ => rn_neq rfl rfl) ?_
    refine WA_done (by kernel_rfl) ?_
    refine thenN ?_
    refine W_fp rfl ((by omega)) ?_
    refine W_skip ?_
    refine blockN ?_
    refine thenN ?_
    refine W_region ?_
    refine WR_val rfl (rn_move) ?_
    refine WR_val rfl (rn_add rfl rfl (Coup.w64 (by omega))) ?_
    refine WR_val rfl (rn_assign) ?_
    refine WR_nil ?_
    refine loopN ⟨k + 1, by omega, ⟨by go_num, rfl, rfl, rfl, rfl, rfl⟩, by omega, hD, hsl, hsl2, hB⟩
  ·
    refine W_exit ?_
    refine thenX ?_
    refine loopX ?_
    refine blockX ?_
    refine thenN ?_
    refine W_seq ?_
    refine W_seq ?_
    refine W_region ?_
    refine WR_val rfl (rn_assign) ?_
    refine WR_nil ?_
    refine thenN ?_
    refine W_block ?_
    refine W_loop (α := Nat) 0 (fun k => [(8, .int .i64 (k : Nat)), (0, .pointer (some ⟨g, 0, none⟩)), (1, .pointer (some ⟨h, 0, none⟩))])
      (fun k w' => k ≤ D.V.length ∧ Two (DZ g D) (RZ h D) lo L w' ∧ Below w.heap.size w w') (fun k => D.V.length - k)
      ⟨rfl, rfl, rfl, rfl⟩ ⟨Nat.zero_le _, hD, hB⟩ ?_
    clear hD hB hsl hsl2
    rintro k f wr ⟨hk, hD, hB⟩
    have hobt := uRow hD
    obtain ⟨pv, ov, cv, hr⟩ := hobt
    have hDs := hD
    refine W_seq ?_
    refine W_seq ?_
    refine W_region ?_
    refine WR_val rfl (rn_move) ?_
    refine WR_val rfl (rn_move) ?_
    refine WR_val rfl (rn_nilCheckP rfl) ?_
    refine WR_val rfl (rn_fieldAddr (off := 0) (by kernel_rfl) rfl) ?_
    refine WR_val rfl (rn_load rfl (Ld.row1 hr (by kernel_rfl) rfl)) ?_
    refine WR_val rfl (rn_lenSl (e := 52) (sz := 1) (by kernel_rfl) rfl rfl) ?_
    refine WR_val rfl (rn_lss rfl rfl) ?_
    refine WR_nil ?_
    refine thenN ?_
    refine W_ifp rfl (fun hlt => ?_) (fun hlt => ?_)
    ·
      refine W_skip ?_
      refine thenN ?_
      refine W_seq ?_
      refine W_block ?_
      refine W_seq ?_
      have hin : inD D (k : Int) = true := decide_eq_true (by omega)
      have hobt : ∃ R, readD D k = R := ⟨_, rfl⟩
      obtain ⟨R, hR⟩ := hobt
      have hRl : (bv R).length = 128 := by rw [bv_length, ← hR]; exact lastS_ok (ver_ok hok.1 (by omega)).2.1
      have htr := tRead hD (k : Int)
      rw [hin, if_pos rfl, if_pos rfl, Int.toNat_natCast, hR] at htr
      refine W_region ?_
      refine WR_val rfl (rn_move) ?_
      refine WR_val rfl (rn_move) ?_
      refine WR_ent rfl (rn_call (by kernel_rfl) rfl) (htr) ?_
      rintro _ w66 ⟨rfl, hb66⟩
      replace hD := hD.new hb66
      replace hr := hr.new hb66
      replace hB := hB.acc hb66
      refine WR_val rfl (rn_move) ?_
      refine WR_val rfl (rn_extract rfl rfl) ?_
      refine WR_val rfl (rn_extract rfl rfl) ?_
      refine WR_mk rfl (mk_alloc (List.replicate 128 (Value.int .u8 0)) (by kernel_rfl) (fun g9 w9 hg9 hr9 hb9 => ?_))
      have ge_hB_g9 := Nat.le_trans hB.size hg9
      have lt_h_g9 : h < g9 := Nat.lt_of_lt_of_le hr.lt hg9
      replace hD := hD.newc hb9 hg9 hr9.lt
      replace hr := hr.new hb9
      replace hB := hB.acc hb9
      rw [hzb] at hr9
      refine WR_sk rfl (sk_storeA 128 (bv R) rfl rfl hr9 (by kernel_rfl) (by first | assumption | (simp; done) | (simp [bv_length, *]; done)) (by first | assumption | (simp; done) | (simp [bv_length, *]; done) | rfl) (by first | exact bv_one _ | assumption | (simp [Value.oneCell']; done)) (fun w903 hr9 ho903 => ?_))
      replace hD := hD.only ho903 (by first | (right; simp; done) | (left; omega))
      replace hr := hr.only ho903 (Nat.ne_of_lt lt_h_g9)
      replace hB := ho903.below hB ge_hB_g9
      refine WR_val rfl (rn_assign) ?_
      refine WR_nil ?_
      refine thenN ?_
      refine W_seq ?_
      refine W_draw' [] (by kernel_rfl) ?_
      intro w904 hb904 hS904
      replace hD := hD.new hb904
      replace hr := hr.new hb904
      replace hr9 := hr9.new hb904
      replace hB := hB.acc hb904
      have hD_d904 := hD
      have hr_d904 := hr
      have hr9_d904 := hr9
      have hB_d904 := hB
      refine WA_take 0 (by kernel_rfl) rfl (fun _ _ => rn_move) ?_
      refine WA_take 1 (by kernel_rfl) rfl (fun _ _ => rn_neq rfl rfl) ?_
      refine WA_take 2 (by kernel_rfl) rfl (fun _ _ => rn_move) ?_
      refine WA_fp 71 rfl ((by omega)) ?_
      refine WA_take 3 (by kernel_rfl) rfl (fun w' hS' => rn_load rfl (Ld.rowA (k := 128) (hr9_d904.kpd hS' (by first | (simp; done) | (simp; omega) | (simp [*]; done) | exact notLL (Or.inl (by omega)) | exact notLL (Or.inr (by simp)) | exact fun g hm => Nat.le_trans (by omega) (inLL hm).1 | (intro b o e; cases e; exact notLL (Or.inl (by omega))))) (by kernel_rfl) (by kernel_rfl) (by first | (simp; done) | (simp [bv_length, *]; done) | assumption))) ?_
      refine WA_take 4 (by kernel_rfl) rfl (fun _ _ => rn_move) ?_
      refine WA_take 5 (by kernel_rfl) rfl (fun _ _ => rn_move) ?_
      refine WA_one 6 (by kernel_rfl) ?_
      have hur := uRead hD k (by omega)
      rw [hR] at hur
      refine WO_ent rfl rfl (rn_call (by kernel_rfl) rfl) (hur) ?_
      rintro _ w75 ⟨rfl, hb75⟩
      have hS905 := hS904.add0 hb75
      refine ⟨hS905, ?_⟩
      replace hD := hD.new hb75
      replace hr := hr.new hb75
      replace hr9 := hr9.new hb75
      replace hB := hB.acc hb75
      refine WA_take 7 (by kernel_rfl) rfl (fun _ _ => rn_neqA (n := 128) (by kernel_rfl) rfl rfl (by rw [← bv_length]; exact hRl) (by rw [← bv_length]; exact hRl)) ?_
      refine WA_take 8 (by kernel_rfl) rfl (fun _ _ => rn_pick_f rfl) ?_
      refine WA_done (by kernel_rfl) ?_
      refine thenN ?_
      refine W_fn rfl ((by simp)) ?_
      refine W_skip ?_
      refine blockN ?_
      refine thenN ?_
      refine W_region ?_
      refine WR_val rfl (rn_move) ?_
      refine WR_val rfl (rn_add rfl rfl (Coup.w64 (by omega))) ?_
      refine WR_val rfl (rn_assign) ?_
      refine WR_nil ?_
      refine loopN ⟨k + 1, by omega, ⟨by go_num, rfl, rfl, rfl⟩, by omega, hD.weak (fun b hb => List.mem_cons_of_mem _ hb), hB⟩
    ·
      refine W_exit ?_
      refine thenX ?_
      refine loopX ?_
      refine blockX ?_
      refine thenN ?_
      refine W_seq ?_
      refine W_region ?_
      refine WR_val rfl (rn_assign) ?_
      refine WR_nil ?_
      refine thenN ?_
      refine W_ret ?_
      refine ret_ret [_] ⟨rfl, trivial⟩ ?_
      exact ⟨rfl, hB⟩
end Go.Proofs.Ytpndhildmfmcgaa
