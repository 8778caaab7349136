/- The law DiskLasts, walked. -/
import Derived.Test.YtpndhildmfmcgaaDiskZa
namespace Go.Proofs.Ytpndhildmfmcgaa
open Go Go.RowKit Coup

theorem tCopyShut {g lo : Nat} {L : List Nat} {D : Dk} {w : World} (h : Two (DZ g D) None lo L w) (hs : ∀ i, openB D i = false) :
    Calls Try.prog 21 [.pointer (some ⟨g, 0, none⟩)].toArray w (Ret fun v w' => ∃ g', v = .pointer (some ⟨g', 0, none⟩) ∧ Two (DZ g D) (DZ g' D) lo L w' ∧ Below w.heap.size w w') := by
  have h' := h
  obtain ⟨⟨B, C, h1, h2, h3, h4⟩, h5, h6⟩ := h'
  exact (copyShut h1 hs).to fun v w' ⟨g', B', e, hY, hlo, hb⟩ => ⟨g', e, Two.add h hb hY hlo, hb⟩
theorem flush_alive {D : Dk} {k : Nat} (h : Alive D k) : stepOk D = true ∧ Alive (flushD D) 1 := by
  obtain ⟨h2, h3⟩ := step_alive h.left h.dead
  refine ⟨h2, ?_⟩
  rw [flushD, if_pos h2, h3]
  exact ⟨h.left, h.dead, by show 0 < (D.V.map _).length; rw [List.length_map]; exact h.pos, fun v hv => by obtain ⟨u, _, rfl⟩ := List.mem_map.1 hv; simp⟩
theorem flush_shut {D : Dk} (h : stepOk D = true) (i : Nat) : openB (flushD D) i = false := by
  by_cases hi : i < D.V.length
  · unfold openB; rw [flush_ver h hi]; simp
  · unfold openB ver
    rw [List.getD_eq_getElem?_getD, List.getElem?_eq_none (by rw [flush_len]; omega)]; simp
/-- A half as one of x, or of what was written since. -/
def HalfOf (f : Sec → Sec) (x : Sec) (l : List AcT) (i : Nat) (r : Sec) : Prop := f r = f x ∨ ∃ (j : Nat) (a : AcT), l[j]? = some a ∧ a.at_ = (i : Int) ∧ f r = f a.s
theorem half_from {f : Sec → Sec} {x : Sec} {l : List AcT} {i : Nat} {r a : Sec} (h : FromB x l i a) (he : f r = f a) : HalfOf f x l i r := by
  rcases h with rfl | ⟨a, h1, h2, h3⟩
  · exact .inl he
  · obtain ⟨j, hj⟩ := List.getElem?_of_mem h1
    exact .inr ⟨j, a, hj, h2, by rw [he, h3]⟩
theorem lasts_halves {D : Dk} {more : List AcT} {picks : List Int} (h : Alive D 1) (hok : DkOk (writesD D more)) {i : Nat} {x : Sec} (hi : i < D.V.length) (hv : ver D i = [x]) :
    (readD (crashD (writesD D more) picks) i).length = 128 ∧ HalfOf fstH x more i (readD (crashD (writesD D more) picks) i) ∧ HalfOf sndH x more i (readD (crashD (writesD D more) picks) i) := by
  obtain ⟨_, h2, h3, h4⟩ := writes_from h hi hv more more.length (Nat.le_refl _)
  rw [List.take_length] at h2 h3 h4
  obtain ⟨s, hs, hsl, a, ha, b, hb, e1, e2⟩ := crash_ver hok picks (i := i) (by omega)
  have hr : readD (crashD (writesD D more) picks) i = s := by rw [readD, hs]; rfl
  rw [hr]
  exact ⟨hsl, half_from (h4 a ha) e1, half_from (h4 b hb) e2⟩
set_option maxRecDepth 8000 in
set_option maxHeartbeats 2000000 in
theorem diskLastsC (n : Int) (p1 : Option Addr) (len1 cp1 : Nat) (R1 : List AcT) (p2 : Option Addr) (len2 cp2 : Nat) (R2 : List AcT) (p3 : Option Addr) (len3 cp3 : Nat) (picks : List Int) (w : World) (h1 : AcsAt w p1 len1 R1) (h2 : AcsAt w p2 len2 R2) (h3 : SlAt w p3 len3 1 (iv picks)) :
    Calls Try.prog 5 [.int .i64 n, .slice p1 len1 cp1, .slice p2 len2 cp2, .slice p3 len3 cp3].toArray w (Ret fun v w' => v = .bool true ∧ Below w.heap.size w w') := by
  have hB := Below.refl w.heap.size w
  have hR1 := h1.1
  have hR2 := h2.1
  have hml : maxLen = 9223372036854775807 := by decide
  have hp3 : picks.length = len3 := by simpa [iv_length] using h3.len
  obtain ⟨Z, hzz, hzb, hzl⟩ := zeroSQ
  by_cases hn : n < 1
  refine calls_W (fn := Try.f5) (rs := [.tmp 8]) (n := 179) Try.func5 rfl rfl Try.ntmps5 (by kernel_rfl) rfl ?_
  refine W_seq ?_
  refine W_region ?_
  refine WR_val rfl (rn_assign) ?_
  refine WR_nil ?_
  refine thenN ?_
  refine W_seq ?_
  refine W_seq ?_
  refine W_region ?_
  refine WR_val rfl (rn_move) ?_
  refine WR_val rfl (rn_lss rfl rfl) ?_
  refine WR_val rfl (rn_move) ?_
  refine WR_tp 26 rfl (hn) ?_
  refine WR_no rfl rfl ?_
  refine WR_no rfl rfl ?_
  refine WR_val rfl (rn_pick_t rfl) ?_
  refine WR_val rfl (rn_move) ?_
  refine WR_no rfl rfl ?_
  refine WR_no rfl rfl ?_
  refine WR_no rfl rfl ?_
  refine WR_val rfl (rn_pick_t rfl) ?_
  refine WR_val rfl (rn_move) ?_
  refine WR_no rfl rfl ?_
  refine WR_no rfl rfl ?_
  refine WR_no rfl rfl ?_
  refine WR_val rfl (rn_pick_t rfl) ?_
  refine WR_val rfl (rn_move) ?_
  refine WR_no rfl rfl ?_
  refine WR_no rfl rfl ?_
  refine WR_no rfl rfl ?_
  refine WR_val rfl (rn_pick_t rfl) ?_
  refine WR_nil ?_
  refine thenN ?_
  refine W_tb rfl (rfl) ?_
  refine W_seq ?_
  refine W_region ?_
  refine WR_ent rfl (rn_call (by kernel_rfl) rfl) (known10 w) ?_
  rintro _ w45 ⟨rfl, hb45⟩
  replace hB := hB.acc hb45
  refine WR_val rfl (rn_assign) ?_
  refine WR_nil ?_
  refine thenN ?_
  refine W_ret ?_
  refine thenR ?_
  refine ret_ret [_] ⟨rfl, trivial⟩ ?_
  exact ⟨rfl, hB⟩
  refine calls_W (fn := Try.f5) (rs := [.tmp 8]) (n := 179) Try.func5 rfl rfl Try.ntmps5 (by kernel_rfl) rfl ?_
  refine W_seq ?_
  refine W_region ?_
  refine WR_val rfl (rn_assign) ?_
  refine WR_nil ?_
  refine thenN ?_
  refine W_seq ?_
  refine W_seq ?_
  refine W_region ?_
  refine WR_val rfl (rn_move) ?_
  refine WR_val rfl (rn_lss rfl rfl) ?_
  refine WR_val rfl (rn_move) ?_
  refine WR_fp 26 rfl (hn) ?_
  refine WR_yes rfl ?_
  refine WR_val rfl (rn_move) ?_
  refine WR_yes rfl ?_
  refine WR_val rfl (rn_gtr rfl rfl) ?_
  refine WR_val rfl (rn_pick_f rfl) ?_
  refine WR_val rfl (rn_move) ?_
  refine WR_part 30 rfl (fun h20 => ?_) (fun h20 => ?_)
  ·
    refine WR_no rfl rfl ?_
    refine WR_no rfl rfl ?_
    refine WR_no rfl rfl ?_
    refine WR_val rfl (rn_pick_t rfl) ?_
    refine WR_val rfl (rn_move) ?_
    refine WR_no rfl rfl ?_
    refine WR_no rfl rfl ?_
    refine WR_no rfl rfl ?_
    refine WR_val rfl (rn_pick_t rfl) ?_
    refine WR_val rfl (rn_move) ?_
    refine WR_no rfl rfl ?_
    refine WR_no rfl rfl ?_
    refine WR_no rfl rfl ?_
    refine WR_val rfl (rn_pick_t rfl) ?_
    refine WR_nil ?_
    refine thenN ?_
    refine W_tb rfl (rfl) ?_
    refine W_seq ?_
    refine W_region ?_
    refine WR_ent rfl (rn_call (by kernel_rfl) rfl) (known10 w) ?_
    rintro _ w45 ⟨rfl, hb45⟩
    replace hB := hB.acc hb45
    refine WR_val rfl (rn_assign) ?_
    refine WR_nil ?_
    refine thenN ?_
    refine W_ret ?_
    refine thenR ?_
    refine ret_ret [_] ⟨rfl, trivial⟩ ?_
    exact ⟨rfl, hB⟩
  ·
    refine WR_yes rfl ?_
    refine WR_val rfl (rn_move) ?_
    refine WR_yes rfl ?_
    refine WR_ent rfl (rn_call (by kernel_rfl) rfl) (few9 p1 len1 cp1 40 R1 w (acsBelow h1 hB) (by omega)) ?_
    rintro _ _ ⟨fB, rfl, hfB, rfl⟩
    refine WR_yes rfl ?_
    refine WR_val rfl (rn_not rfl) ?_
    refine WR_val rfl (rn_pick_f rfl) ?_
    refine WR_val rfl (rn_move) ?_
    refine WR_partnb 35 rfl (fun hf => ?_) (fun hf => ?_)
    ·
      refine WR_no rfl rfl ?_
      refine WR_no rfl rfl ?_
      refine WR_no rfl rfl ?_
      refine WR_val rfl (rn_pick_t rfl) ?_
      refine WR_val rfl (rn_move) ?_
      refine WR_no rfl rfl ?_
      refine WR_no rfl rfl ?_
      refine WR_no rfl rfl ?_
      refine WR_val rfl (rn_pick_t rfl) ?_
      refine WR_nil ?_
      refine thenN ?_
      refine W_tb rfl (rfl) ?_
      refine W_seq ?_
      refine W_region ?_
      refine WR_ent rfl (rn_call (by kernel_rfl) rfl) (known10 w) ?_
      rintro _ w45 ⟨rfl, hb45⟩
      replace hB := hB.acc hb45
      refine WR_val rfl (rn_assign) ?_
      refine WR_nil ?_
      refine thenN ?_
      refine W_ret ?_
      refine thenR ?_
      refine ret_ret [_] ⟨rfl, trivial⟩ ?_
      exact ⟨rfl, hB⟩
    ·
      refine WR_yes rfl ?_
      refine WR_val rfl (rn_move) ?_
      refine WR_yes rfl ?_
      refine WR_ent rfl (rn_call (by kernel_rfl) rfl) (few9 p2 len2 cp2 40 R2 w (acsBelow h2 hB) (by omega)) ?_
      rintro _ _ ⟨fB2, rfl, hfB2, rfl⟩
      refine WR_yes rfl ?_
      refine WR_val rfl (rn_not rfl) ?_
      refine WR_val rfl (rn_pick_f rfl) ?_
      refine WR_val rfl (rn_move) ?_
      refine WR_partnb 40 rfl (fun hf2 => ?_) (fun hf2 => ?_)
      ·
        refine WR_no rfl rfl ?_
        refine WR_no rfl rfl ?_
        refine WR_no rfl rfl ?_
        refine WR_val rfl (rn_pick_t rfl) ?_
        refine WR_nil ?_
        refine thenN ?_
        refine W_tb rfl (rfl) ?_
        refine W_seq ?_
        refine W_region ?_
        refine WR_ent rfl (rn_call (by kernel_rfl) rfl) (known10 w) ?_
        rintro _ w45 ⟨rfl, hb45⟩
        replace hB := hB.acc hb45
        refine WR_val rfl (rn_assign) ?_
        refine WR_nil ?_
        refine thenN ?_
        refine W_ret ?_
        refine thenR ?_
        refine ret_ret [_] ⟨rfl, trivial⟩ ?_
        exact ⟨rfl, hB⟩
      ·
        refine WR_yes rfl ?_
        refine WR_val rfl (rn_move) ?_
        refine WR_yes rfl ?_
        refine WR_val rfl (rn_lenSl (e := 3) (sz := 1) (by kernel_rfl) rfl rfl) ?_
        refine WR_yes rfl ?_
        refine WR_val rfl (rn_gtr rfl rfl) ?_
        refine WR_val rfl (rn_pick_f rfl) ?_
        refine WR_nil ?_
        refine thenN ?_
        refine W_ifp rfl (fun hpk => ?_) (fun hpk => ?_)
        ·
          refine W_seq ?_
          refine W_region ?_
          refine WR_ent rfl (rn_call (by kernel_rfl) rfl) (known10 w) ?_
          rintro _ w45 ⟨rfl, hb45⟩
          replace hB := hB.acc hb45
          refine WR_val rfl (rn_assign) ?_
          refine WR_nil ?_
          refine thenN ?_
          refine W_ret ?_
          refine thenR ?_
          refine ret_ret [_] ⟨rfl, trivial⟩ ?_
          exact ⟨rfl, hB⟩
        ·
          have hfw := hfB (by cases fB <;> simp_all)
          have hfw2 := hfB2 (by cases fB2 <;> simp_all)
          have hobt : ∃ m : Nat, n = m := ⟨n.toNat, by omega⟩
          obtain ⟨m, rfl⟩ := hobt
          have hm1 : R1.length ≤ 40 := hfw.1
          have hm2 : R2.length ≤ 40 := hfw2.1
          have hal0 := alive_new (n := m) (by omega)
          have hwr := writes_alive hal0 R1
          have hlen := newD_len m
          refine W_skip ?_
          refine thenN ?_
          refine W_seq ?_
          refine W_region ?_
          refine WR_val rfl (rn_move) ?_
          refine WR_ent rfl (rn_call (by kernel_rfl) rfl) (begin12d m w (by omega) (by omega)) ?_
          rintro _ w48 ⟨g, h0, B, rfl, hX, hBlo, hb48⟩
          replace hB := hB.acc hb48
          have hD : Two (DZ g (newD m)) None w.heap.size [] w48 := Two.one hX (fun b hb => ⟨hBlo b hb, by simp⟩) hB.size (by simp)
          refine WR_val rfl (rn_move) ?_
          refine WR_val rfl (rn_extract rfl rfl) ?_
          refine WR_val rfl (rn_extract rfl rfl) ?_
          refine WR_val rfl (rn_extract rfl rfl) ?_
          refine WR_val rfl (rn_assign) ?_
          refine WR_val rfl (rn_assign) ?_
          refine WR_val rfl (rn_assign) ?_
          refine WR_nil ?_
          refine thenN ?_
          refine W_seq ?_
          refine W_seq ?_
          refine W_region ?_
          refine WR_val rfl (rn_move) ?_
          refine WR_val rfl (rn_not rfl) ?_
          refine WR_nil ?_
          refine thenN ?_
          refine W_fnb rfl (rfl) ?_
          refine W_skip ?_
          refine thenN ?_
          refine W_seq ?_
          refine W_seq ?_
          refine W_region ?_
          refine WR_val rfl (rn_assign) ?_
          refine WR_nil ?_
          refine thenN ?_
          refine W_block ?_
          refine W_loop (α := Nat) 0 (fun i => [(12, .int .i64 (i : Nat)), (0, .int .i64 (m : Int)), (1, .slice p1 len1 cp1), (2, .slice p2 len2 cp2), (3, .slice p3 len3 cp3), (9, .pointer (some ⟨g, 0, none⟩))])
            (fun i w' => i ≤ len1 ∧ Two (DZ g (writesD (newD m) (R1.take i))) None w.heap.size [] w' ∧ Below w.heap.size w w') (fun i => len1 - i)
            ⟨rfl, rfl, rfl, rfl, rfl, rfl, rfl⟩ ⟨Nat.zero_le _, hD, hB⟩ ?_
          clear hD hB
          rintro i f wr ⟨hi, hD, hB⟩
          refine W_seq ?_
          refine W_seq ?_
          refine W_region ?_
          refine WR_val rfl (rn_move) ?_
          refine WR_val rfl (rn_move) ?_
          refine WR_val rfl (rn_lenSl (e := 37) (sz := 132) (by kernel_rfl) rfl rfl) ?_
          refine WR_val rfl (rn_lss rfl rfl) ?_
          refine WR_nil ?_
          refine thenN ?_
          refine W_ifp rfl (fun hlt => ?_) (fun hlt => ?_)
          ·
            refine W_skip ?_
            refine thenN ?_
            refine W_seq ?_
            refine W_block ?_
            have hobt := h1.get (i := i) (by omega)
            obtain ⟨a, hx⟩ := hobt
            have hobt := h1.some (by omega)
            obtain ⟨gp, op, rfl, _⟩ := hobt
            have hle := h1.ldB (P := Try.prog) (t := 37) (by kernel_rfl) (by kernel_rfl) hx
            obtain ⟨cs, ⟨q, qc, rfl, e2, e3, e4, _⟩, hcl, hld⟩ := hle
            have hsn := writesD_snoc (newD m) R1 hx
            have hsh := (hwr i (by omega)).1.short
            refine W_drawL (w.heap.size) ([]) (by kernel_rfl) ?_
            intro w901 hb901 hn901 hS901
            replace hD := hD.new hb901
            replace hB := hB.acc hb901
            have hD_d901 := hD
            have hB_d901 := hB
            refine WA_take 0 (by kernel_rfl) rfl (fun _ _ => rn_move) ?_
            refine WA_take 1 (by kernel_rfl) rfl (fun _ _ => rn_move) ?_
            refine WA_take 2 (by kernel_rfl) rfl (fun _ _ => rn_move) ?_
            refine WA_take 3 (by kernel_rfl) rfl (fun _ _ => rn_indexSl (e := 37) (sz := 132) (by kernel_rfl) rfl rfl (i) (by omega) (by omega)) ?_
            refine WA_take 4 (by kernel_rfl) rfl (fun _ _ => rn_fieldAddr (off := 1) (by kernel_rfl) rfl) ?_
            refine WA_take 5 (by kernel_rfl) rfl (fun w' hS' => rn_load rfl (Ld.one (by kernel_rfl) ((hld _ (hB_d901.kpd hS' (by first | (simp; done) | (simp; omega) | (simp [*]; done) | exact notLL (Or.inl (by omega)) | exact notLL (Or.inr (by simp)) | exact fun g hm => Nat.le_trans (by omega) (inLL hm).1 | (intro b o e; cases e; exact notLL (Or.inl (by omega)))))).2 1 _ rfl))) ?_
            refine WA_take 6 (by kernel_rfl) rfl (fun _ _ => rn_move) ?_
            refine WA_take 7 (by kernel_rfl) rfl (fun _ _ => rn_move) ?_
            refine WA_take 8 (by kernel_rfl) rfl (fun _ _ => rn_indexSl (e := 37) (sz := 132) (by kernel_rfl) rfl rfl (i) (by omega) (by omega)) ?_
            refine WA_take 9 (by kernel_rfl) rfl (fun _ _ => rn_fieldAddr (off := 3) (by kernel_rfl) rfl) ?_
            refine WA_take 10 (by kernel_rfl) rfl (fun w' hS' => rn_load rfl (ac_ld (hld _ (hB_d901.kpd hS' (by first | (simp; done) | (simp; omega) | (simp [*]; done) | exact notLL (Or.inl (by omega)) | exact notLL (Or.inr (by simp)) | exact fun g hm => Nat.le_trans (by omega) (inLL hm).1 | (intro b o e; cases e; exact notLL (Or.inl (by omega)))))).2 e2)) ?_
            refine WA_one 11 (by kernel_rfl) ?_
            refine WO_ent rfl rfl (rn_call (by kernel_rfl) rfl) (tWrite hD a.at_ a.s e2 (short_of hsh (by omega))) ?_
            rintro _ w71 ⟨_, hD, hb71⟩
            have hS902 := hS901.addLL hn901 hb71
            refine ⟨hS902, ?_⟩
            replace hB := belLL hB hb71 (by omega)
            rw [← hsn] at hD
            refine WA_done (by kernel_rfl) ?_
            refine blockN ?_
            refine thenN ?_
            refine W_region ?_
            refine WR_val rfl (rn_move) ?_
            refine WR_val rfl (rn_add rfl rfl (Coup.w64 (by omega))) ?_
            refine WR_val rfl (rn_assign) ?_
            refine WR_nil ?_
            refine loopN ⟨i + 1, by omega, ⟨by go_num, rfl, rfl, rfl, rfl, rfl, rfl⟩, by omega, hD, hB⟩
          ·
            have hil : i = len1 := by omega
            rw [hil, List.take_of_length_le (by omega)] at hD
            have hwl := hwr R1.length (Nat.le_refl _)
            rw [List.take_length, hlen] at hwl
            have hobt := flush_alive hwl.1
            obtain ⟨hst, hal1⟩ := hobt
            have hfs := flush_shut hst
            have hfl := flush_len (D := writesD (newD m) R1)
            rw [hwl.2] at hfl
            have hfv := fun i (hi : i < (writesD (newD m) R1).V.length) => flush_ver hst hi
            rw [hwl.2] at hfv
            have hTf := fun w' (h : Two (DZ g (writesD (newD m) R1)) None w.heap.size [] w') => tFlush h
            have hob : ∃ D2, flushD (writesD (newD m) R1) = D2 := ⟨_, rfl⟩
            obtain ⟨D2, hD2⟩ := hob
            rw [hD2] at hal1 hfs hfl hfv hTf
            rw [hst] at hTf
            have hwr2 := writes_alive hal1 R2
            refine W_exit ?_
            refine thenX ?_
            refine loopX ?_
            refine blockX ?_
            refine thenN ?_
            refine W_seq ?_
            refine W_seq ?_
            refine W_region ?_
            refine WR_val rfl (rn_move) ?_
            refine WR_ent rfl (rn_call (by kernel_rfl) rfl) (hTf wr hD) ?_
            rintro _ w73 ⟨rfl, hD, hb73⟩
            replace hB := belLL hB hb73 (by omega)
            refine WR_val rfl (rn_neq rfl rfl) ?_
            refine WR_nil ?_
            refine thenN ?_
            refine W_fp rfl ((by simp)) ?_
            refine W_skip ?_
            refine thenN ?_
            refine W_seq ?_
            refine W_region ?_
            refine WR_val rfl (rn_move) ?_
            refine WR_ent rfl (rn_call (by kernel_rfl) rfl) (tCopyShut hD hfs) ?_
            rintro _ w76 ⟨g2, rfl, hC, hb76⟩
            replace hB := hB.acc hb76
            refine WR_val rfl (rn_assign) ?_
            refine WR_nil ?_
            refine thenN ?_
            refine W_seq ?_
            refine W_seq ?_
            refine W_region ?_
            refine WR_val rfl (rn_assign) ?_
            refine WR_nil ?_
            refine thenN ?_
            refine W_block ?_
            refine W_loop (α := Nat) 0 (fun i => [(14, .int .i64 (i : Nat)), (0, .int .i64 (m : Int)), (2, .slice p2 len2 cp2), (3, .slice p3 len3 cp3), (9, .pointer (some ⟨g, 0, none⟩)), (13, .pointer (some ⟨g2, 0, none⟩))])
              (fun i w' => i ≤ len2 ∧ Two (DZ g (writesD D2 (R2.take i))) (DZ g2 D2) w.heap.size [] w' ∧ Below w.heap.size w w') (fun i => len2 - i)
              ⟨rfl, rfl, rfl, rfl, rfl, rfl, rfl⟩ ⟨Nat.zero_le _, hC, hB⟩ ?_
            clear hC hB hD
            rintro i f wr ⟨hi, hD, hB⟩
            refine W_seq ?_
            refine W_seq ?_
            refine W_region ?_
            refine WR_val rfl (rn_move) ?_
            refine WR_val rfl (rn_move) ?_
            refine WR_val rfl (rn_lenSl (e := 37) (sz := 132) (by kernel_rfl) rfl rfl) ?_
            refine WR_val rfl (rn_lss rfl rfl) ?_
            refine WR_nil ?_
            refine thenN ?_
            refine W_ifp rfl (fun hlt => ?_) (fun hlt => ?_)
            ·
              refine W_skip ?_
              refine thenN ?_
              refine W_seq ?_
              refine W_block ?_
              have hobt := h2.get (i := i) (by omega)
              obtain ⟨a, hx⟩ := hobt
              have hobt := h2.some (by omega)
              obtain ⟨gp, op, rfl, _⟩ := hobt
              have hle := h2.ldB (P := Try.prog) (t := 37) (by kernel_rfl) (by kernel_rfl) hx
              obtain ⟨cs, ⟨q, qc, rfl, e2, e3, e4, _⟩, hcl, hld⟩ := hle
              have hsn := writesD_snoc D2 R2 hx
              have hsh := (hwr2 i (by omega)).1.short
              refine W_drawL (w.heap.size) ([]) (by kernel_rfl) ?_
              intro w903 hb903 hn903 hS903
              replace hD := hD.new hb903
              replace hB := hB.acc hb903
              have hD_d903 := hD
              have hB_d903 := hB
              refine WA_take 0 (by kernel_rfl) rfl (fun _ _ => rn_move) ?_
              refine WA_take 1 (by kernel_rfl) rfl (fun _ _ => rn_move) ?_
              refine WA_take 2 (by kernel_rfl) rfl (fun _ _ => rn_move) ?_
              refine WA_take 3 (by kernel_rfl) rfl (fun _ _ => rn_indexSl (e := 37) (sz := 132) (by kernel_rfl) rfl rfl (i) (by omega) (by omega)) ?_
              refine WA_take 4 (by kernel_rfl) rfl (fun _ _ => rn_fieldAddr (off := 1) (by kernel_rfl) rfl) ?_
              refine WA_take 5 (by kernel_rfl) rfl (fun w' hS' => rn_load rfl (Ld.one (by kernel_rfl) ((hld _ (hB_d903.kpd hS' (by first | (simp; done) | (simp; omega) | (simp [*]; done) | exact notLL (Or.inl (by omega)) | exact notLL (Or.inr (by simp)) | exact fun g hm => Nat.le_trans (by omega) (inLL hm).1 | (intro b o e; cases e; exact notLL (Or.inl (by omega)))))).2 1 _ rfl))) ?_
              refine WA_take 6 (by kernel_rfl) rfl (fun _ _ => rn_move) ?_
              refine WA_take 7 (by kernel_rfl) rfl (fun _ _ => rn_move) ?_
              refine WA_take 8 (by kernel_rfl) rfl (fun _ _ => rn_indexSl (e := 37) (sz := 132) (by kernel_rfl) rfl rfl (i) (by omega) (by omega)) ?_
              refine WA_take 9 (by kernel_rfl) rfl (fun _ _ => rn_fieldAddr (off := 3) (by kernel_rfl) rfl) ?_
              refine WA_take 10 (by kernel_rfl) rfl (fun w' hS' => rn_load rfl (ac_ld (hld _ (hB_d903.kpd hS' (by first | (simp; done) | (simp; omega) | (simp [*]; done) | exact notLL (Or.inl (by omega)) | exact notLL (Or.inr (by simp)) | exact fun g hm => Nat.le_trans (by omega) (inLL hm).1 | (intro b o e; cases e; exact notLL (Or.inl (by omega)))))).2 e2)) ?_
              refine WA_one 11 (by kernel_rfl) ?_
              refine WO_ent rfl rfl (rn_call (by kernel_rfl) rfl) (tWrite hD a.at_ a.s e2 (short_of hsh (by omega))) ?_
              rintro _ w94 ⟨_, hD, hb94⟩
              have hS904 := hS903.addLL hn903 hb94
              refine ⟨hS904, ?_⟩
              replace hB := belLL hB hb94 (by omega)
              rw [← hsn] at hD
              refine WA_done (by kernel_rfl) ?_
              refine blockN ?_
              refine thenN ?_
              refine W_region ?_
              refine WR_val rfl (rn_move) ?_
              refine WR_val rfl (rn_add rfl rfl (Coup.w64 (by omega))) ?_
              refine WR_val rfl (rn_assign) ?_
              refine WR_nil ?_
              refine loopN ⟨i + 1, by omega, ⟨by go_num, rfl, rfl, rfl, rfl, rfl, rfl⟩, by omega, hD, hB⟩
            ·
              have hil : i = len2 := by omega
              rw [hil, List.take_of_length_le (by omega)] at hD
              have hok3 := (tOk hD).1
              have hbl := fun w' (h : Below w.heap.size w w') => h3.below h (Nat.le_refl _)
              have hq0 : 0 < len3 → ∀ b o, p3 = some ⟨b, o, none⟩ → b < w.heap.size ∨ b ∈ ([] : List Nat) := fun h0 b o e => by
                have hobt := h3.some (by omega)
                obtain ⟨g', o', e', hl⟩ := hobt
                rw [e'] at e; cases e; exact .inl hl
              have hlh : ∀ i, i < m → ∃ x, ver D2 i = [x] ∧ x.length = 128 ∧ (readD (crashD (writesD D2 R2) picks) i).length = 128 ∧ HalfOf fstH x R2 i (readD (crashD (writesD D2 R2) picks) i) ∧ HalfOf sndH x R2 i (readD (crashD (writesD D2 R2) picks) i) := fun i hi => by
                have hv := hfv i hi
                refine ⟨_, hv, ?_, lasts_halves hal1 hok3 (by omega) hv⟩
                have hx := ver_ok (tOk hD.swap).1 (i := i) (by omega)
                rw [hv] at hx
                exact hx.2.1 _ (by simp)
              have hcl : (crashD (writesD D2 R2) picks).V.length = m := by
                have := (writes_alive hal1 R2 R2.length (Nat.le_refl _)).2
                rw [List.take_length] at this
                rw [crash_len]; omega
              have hcs := crash_shut hok3 picks
              have hTc := fun w' (h : Two (DZ g (writesD D2 R2)) (DZ g2 D2) w.heap.size [] w') (hb : Below w.heap.size w w') => tCrash (cp := cp3) h p3 len3 picks (hbl w' hb) hq0
              have hob : ∃ D4, crashD (writesD D2 R2) picks = D4 := ⟨_, rfl⟩
              obtain ⟨D4, hD4⟩ := hob
              rw [hD4] at hlh hcl hcs hTc
              refine W_exit ?_
              refine thenX ?_
              refine loopX ?_
              refine blockX ?_
              refine thenN ?_
              refine W_seq ?_
              refine W_seq ?_
              refine W_region ?_
              refine WR_val rfl (rn_move) ?_
              refine WR_val rfl (rn_move) ?_
              refine WR_ent rfl (rn_call (by kernel_rfl) rfl) (hTc wr hD hB) ?_
              rintro _ w97 ⟨rfl, hD, hb97⟩
              replace hB := belLL hB hb97 (by omega)
              refine WR_val rfl (rn_neq rfl rfl) ?_
              refine WR_val rfl (rn_move) ?_
              refine WR_fp 99 rfl ((by omega)) ?_
              refine WR_yes rfl ?_
              refine WR_val rfl (rn_move) ?_
              refine WR_yes rfl ?_
              have hop := tOpen hD
              rw [hcs] at hop
              refine WR_ent rfl (rn_call (by kernel_rfl) rfl) (hop) ?_
              rintro _ w101 ⟨p, c, rfl, hsl, hpb, hb101⟩
              replace hD := hD.new hb101
              replace hB := hB.acc hb101
              refine WR_yes rfl ?_
              refine WR_val rfl (rn_lenSl (e := 3) (sz := 1) (by kernel_rfl) rfl rfl) ?_
              refine WR_yes rfl ?_
              refine WR_val rfl (rn_gtr rfl rfl) ?_
              refine WR_val rfl (rn_pick_f rfl) ?_
              refine WR_nil ?_
              refine thenN ?_
              refine W_fp rfl ((by simp)) ?_
              refine W_skip ?_
              refine thenN ?_
              refine W_seq ?_
              refine W_seq ?_
              refine W_region ?_
              refine WR_val rfl (rn_assign) ?_
              refine WR_nil ?_
              refine thenN ?_
              refine W_block ?_
              refine W_loop (α := Nat) 0 (fun i => [(15, .int .i64 (i : Nat)), (0, .int .i64 (m : Int)), (2, .slice p2 len2 cp2), (9, .pointer (some ⟨g, 0, none⟩)), (13, .pointer (some ⟨g2, 0, none⟩))])
                (fun i w' => i ≤ m ∧ Two (DZ g D4) (DZ g2 D2) w.heap.size [] w' ∧ Below w.heap.size w w') (fun i => m - i)
                ⟨rfl, rfl, rfl, rfl, rfl, rfl⟩ ⟨Nat.zero_le _, hD, hB⟩ ?_
              clear hB hD
              rintro i f wr ⟨hi, hD, hB⟩
              refine W_seq ?_
              refine W_seq ?_
              refine W_region ?_
              refine WR_val rfl (rn_move) ?_
              refine WR_val rfl (rn_move) ?_
              refine WR_val rfl (rn_lss rfl rfl) ?_
              refine WR_nil ?_
              refine thenN ?_
              refine W_ifp rfl (fun hlt => ?_) (fun hlt => ?_)
              ·
                refine W_skip ?_
                refine thenN ?_
                refine W_seq ?_
                refine W_block ?_
                refine W_seq ?_
                have hobt := hlh i (by omega)
                obtain ⟨X, hvX, hXl, hRl, hF, hS⟩ := hobt
                have hin4 : inD D4 (i : Int) = true := decide_eq_true (by omega)
                have hin2 : inD D2 (i : Int) = true := decide_eq_true (by omega)
                have hobt : ∃ R, readD D4 i = R := ⟨_, rfl⟩
                obtain ⟨R, hR⟩ := hobt
                rw [hR] at hRl hF hS
                have hrX : readD D2 i = X := by rw [readD, hvX]; rfl
                have htr := tRead hD (i : Int)
                rw [hin4, if_pos rfl, if_pos rfl, Int.toNat_natCast, hR] at htr
                have hRl2 : (bv R).length = 128 := by rw [bv_length]; exact hRl
                have hXl2 : (bv X).length = 128 := by rw [bv_length]; exact hXl
                refine W_region ?_
                refine WR_val rfl (rn_move) ?_
                refine WR_val rfl (rn_move) ?_
                refine WR_ent rfl (rn_call (by kernel_rfl) rfl) (htr) ?_
                rintro _ w113 ⟨rfl, hb113⟩
                replace hD := hD.new hb113
                replace hB := hB.acc hb113
                refine WR_val rfl (rn_move) ?_
                refine WR_val rfl (rn_extract rfl rfl) ?_
                refine WR_val rfl (rn_extract rfl rfl) ?_
                refine WR_mk rfl (mk_alloc (List.replicate 128 (Value.int .u8 0)) (by kernel_rfl) (fun g16 w16 hg16 hr16 hb16 => ?_))
                have ge_hB_g16 := Nat.le_trans hB.size hg16
                replace hD := hD.newc hb16 hg16 hr16.lt
                replace hB := hB.acc hb16
                rw [hzb] at hr16
                refine WR_sk rfl (sk_storeA 128 (bv R) rfl rfl hr16 (by kernel_rfl) (by first | assumption | (simp; done) | (simp [bv_length, *]; done)) (by first | assumption | (simp; done) | (simp [bv_length, *]; done) | rfl) (by first | exact bv_one _ | assumption | (simp [Value.oneCell']; done)) (fun w905 hr16 ho905 => ?_))
                replace hD := hD.only ho905 (by first | (right; simp; done) | (left; omega))
                replace hB := ho905.below hB ge_hB_g16
                refine WR_val rfl (rn_assign) ?_
                refine WR_nil ?_
                refine thenN ?_
                refine W_seq ?_
                refine W_region ?_
                refine WR_val rfl (rn_move) ?_
                refine WR_val rfl (rn_move) ?_
                have htx := tRead hD.swap (i : Int)
                rw [hin2, if_pos rfl, if_pos rfl, Int.toNat_natCast, hrX] at htx
                refine WR_ent rfl (rn_call (by kernel_rfl) rfl) (htx) ?_
                rintro _ w119 ⟨rfl, hb119⟩
                replace hD := hD.new hb119
                replace hr16 := hr16.new hb119
                replace hB := hB.acc hb119
                refine WR_val rfl (rn_move) ?_
                refine WR_val rfl (rn_extract rfl rfl) ?_
                refine WR_val rfl (rn_extract rfl rfl) ?_
                refine WR_mk rfl (mk_alloc (List.replicate 128 (Value.int .u8 0)) (by kernel_rfl) (fun g18 w18 hg18 hr18 hb18 => ?_))
                have ge_hB_g18 := Nat.le_trans hB.size hg18
                have lt_g16_g18 : g16 < g18 := Nat.lt_of_lt_of_le hr16.lt hg18
                replace hD := hD.newc hb18 hg18 hr18.lt
                replace hr16 := hr16.new hb18
                replace hB := hB.acc hb18
                rw [hzb] at hr18
                refine WR_sk rfl (sk_storeA 128 (bv X) rfl rfl hr18 (by kernel_rfl) (by first | assumption | (simp; done) | (simp [bv_length, *]; done)) (by first | assumption | (simp; done) | (simp [bv_length, *]; done) | rfl) (by first | exact bv_one _ | assumption | (simp [Value.oneCell']; done)) (fun w906 hr18 ho906 => ?_))
                replace hD := hD.only ho906 (by first | (right; simp; done) | (left; omega))
                replace hr16 := hr16.only ho906 (Nat.ne_of_lt lt_g16_g18)
                replace hB := ho906.below hB ge_hB_g18
                refine WR_val rfl (rn_assign) ?_
                refine WR_nil ?_
                refine thenN ?_
                refine W_seq ?_
                refine W_seq ?_
                refine W_region ?_
                refine WR_val rfl (rn_move) ?_
                refine WR_val rfl (rn_neq rfl rfl) ?_
                refine WR_val rfl (rn_move) ?_
                refine WR_fp 124 rfl ((by omega)) ?_
                refine WR_yes rfl ?_
                refine WR_val rfl (rn_move) ?_
                refine WR_yes rfl ?_
                refine WR_val rfl (rn_neq rfl rfl) ?_
                refine WR_val rfl (rn_pick_f rfl) ?_
                refine WR_nil ?_
                refine thenN ?_
                refine W_fp rfl ((by omega)) ?_
                refine W_skip ?_
                refine thenN ?_
                refine W_seq ?_
                refine W_draw' [] (by kernel_rfl) ?_
                intro w907 hb907 hS907
                replace hD := hD.new hb907
                replace hr16 := hr16.new hb907
                replace hr18 := hr18.new hb907
                replace hB := hB.acc hb907
                have hD_d907 := hD
                have hr16_d907 := hr16
                have hr18_d907 := hr18
                have hB_d907 := hB
                refine WA_take 0 (by kernel_rfl) rfl (fun _ _ => rn_sliceAr1' (e := 5) (n := 128) (0) (64) (128) (64) (by kernel_rfl) rfl rfl ⟨_, _, rfl, rfl⟩ rfl (by simp) (by omega) (by omega) (by omega) (by omega) (by omega)) ?_
                refine WA_take 1 (by kernel_rfl) rfl (fun w' hS' => rn_str (e := 5) (l := fstH R) (by kernel_rfl) (by kernel_rfl) (by kernel_rfl) rfl ((hr16_d907.kpd hS' (by first | (simp; done) | (simp; omega) | (simp [*]; done) | exact notLL (Or.inl (by omega)) | exact notLL (Or.inr (by simp)) | exact fun g hm => Nat.le_trans (by omega) (inLL hm).1 | (intro b o e; cases e; exact notLL (Or.inl (by omega))))).slB 0 64 (by omega) (by omega))) ?_
                refine WA_take 2 (by kernel_rfl) rfl (fun _ _ => rn_sliceAr1' (e := 5) (n := 128) (0) (64) (128) (64) (by kernel_rfl) rfl rfl ⟨_, _, rfl, rfl⟩ rfl (by simp) (by omega) (by omega) (by omega) (by omega) (by omega)) ?_
                refine WA_take 3 (by kernel_rfl) rfl (fun w' hS' => rn_str (e := 5) (l := fstH X) (by kernel_rfl) (by kernel_rfl) (by kernel_rfl) rfl ((hr18_d907.kpd hS' (by first | (simp; done) | (simp; omega) | (simp [*]; done) | exact notLL (Or.inl (by omega)) | exact notLL (Or.inr (by simp)) | exact fun g hm => Nat.le_trans (by omega) (inLL hm).1 | (intro b o e; cases e; exact notLL (Or.inl (by omega))))).slB 0 64 (by omega) (by omega))) ?_
                refine WA_take 4 (by kernel_rfl) rfl (fun _ _ => rn_eqlS rfl rfl) ?_
                refine WA_take 5 (by kernel_rfl) rfl (fun _ _ => rn_sliceAr1' (e := 5) (n := 128) (64) (128) (128) (64) (by kernel_rfl) rfl ⟨_, _, rfl, rfl⟩ rfl rfl (by simp) (by omega) (by omega) (by omega) (by omega) (by omega)) ?_
                refine WA_take 6 (by kernel_rfl) rfl (fun w' hS' => rn_str (e := 5) (l := sndH R) (by kernel_rfl) (by kernel_rfl) (by kernel_rfl) rfl ((hr16_d907.kpd hS' (by first | (simp; done) | (simp; omega) | (simp [*]; done) | exact notLL (Or.inl (by omega)) | exact notLL (Or.inr (by simp)) | exact fun g hm => Nat.le_trans (by omega) (inLL hm).1 | (intro b o e; cases e; exact notLL (Or.inl (by omega))))).slB 64 64 (by omega) (by omega))) ?_
                refine WA_take 7 (by kernel_rfl) rfl (fun _ _ => rn_sliceAr1' (e := 5) (n := 128) (64) (128) (128) (64) (by kernel_rfl) rfl ⟨_, _, rfl, rfl⟩ rfl rfl (by simp) (by omega) (by omega) (by omega) (by omega) (by omega)) ?_
                refine WA_take 8 (by kernel_rfl) rfl (fun w' hS' => rn_str (e := 5) (l := sndH X) (by kernel_rfl) (by kernel_rfl) (by kernel_rfl) rfl ((hr18_d907.kpd hS' (by first | (simp; done) | (simp; omega) | (simp [*]; done) | exact notLL (Or.inl (by omega)) | exact notLL (Or.inr (by simp)) | exact fun g hm => Nat.le_trans (by omega) (inLL hm).1 | (intro b o e; cases e; exact notLL (Or.inl (by omega))))).slB 64 64 (by omega) (by omega))) ?_
                refine WA_take 9 (by kernel_rfl) rfl (fun _ _ => rn_eqlS rfl rfl) ?_
                refine WA_take 10 (by kernel_rfl) rfl (fun _ _ => rn_assign) ?_
                refine WA_take 11 (by kernel_rfl) rfl (fun _ _ => rn_assign) ?_
                refine WA_done (by kernel_rfl) ?_
                refine thenN ?_
                refine W_seq ?_
                refine W_seq ?_
                refine W_region ?_
                refine WR_val rfl (rn_assign) ?_
                refine WR_nil ?_
                refine thenN ?_
                refine W_block ?_
                have hobt : i < m ∧ True := ⟨by omega, trivial⟩
                obtain ⟨hi0, hk0⟩ := hobt
                refine W_loop (α := Nat × Bool × Bool) (0, decide (fstH R = fstH X), decide (sndH R = sndH X)) (fun k => [(22, .int .i64 (k.1 : Nat)), (20, .bool k.2.1), (21, .bool k.2.2), (15, .int .i64 (i : Nat)), (0, .int .i64 (m : Int)), (2, .slice p2 len2 cp2), (9, .pointer (some ⟨g, 0, none⟩)), (13, .pointer (some ⟨g2, 0, none⟩)), (16, .pointer (some ⟨g16, 0, none⟩)), (18, .pointer (some ⟨g18, 0, none⟩))])
                  (fun k w' => k.1 ≤ len2 ∧ (fstH R = fstH X → k.2.1 = true) ∧ (sndH R = sndH X → k.2.2 = true) ∧ (∀ (j : Nat) (a : AcT), j < k.1 → R2[j]? = some a → a.at_ = (i : Int) → (fstH R = fstH a.s → k.2.1 = true) ∧ (sndH R = sndH a.s → k.2.2 = true)) ∧ row w' g16 (bv R) 34 ∧ Two (DZ g D4) (DZ g2 D2) w.heap.size [] w' ∧ Below w.heap.size w w') (fun k => len2 - k.1)
                  ⟨rfl, rfl, rfl, rfl, rfl, rfl, rfl, rfl, rfl, rfl, rfl⟩ ⟨Nat.zero_le _, fun e => decide_eq_true e, fun e => decide_eq_true e, fun j a hj => absurd hj (Nat.not_lt_zero _), hr16, hD.weak (fun b hb => by cases hb), hB⟩ ?_
                clear hr16 hr18 hD hB htr htx
                rintro ⟨k, bf, bs⟩ f wr ⟨hk, hbf, hbs, hall, hr16, hD, hB⟩
                dsimp only at hk hbf hbs hall ⊢
                refine W_seq ?_
                refine W_seq ?_
                refine W_region ?_
                refine WR_val rfl (rn_move) ?_
                refine WR_val rfl (rn_move) ?_
                refine WR_val rfl (rn_lenSl (e := 37) (sz := 132) (by kernel_rfl) rfl rfl) ?_
                refine WR_val rfl (rn_lss rfl rfl) ?_
                refine WR_nil ?_
                refine thenN ?_
                refine W_ifp rfl (fun hlt2 => ?_) (fun hlt2 => ?_)
                ·
                  refine W_skip ?_
                  refine thenN ?_
                  refine W_seq ?_
                  refine W_block ?_
                  refine W_seq ?_
                  have hobt := h2.get (i := k) (by omega)
                  obtain ⟨a, hx⟩ := hobt
                  have hobt := h2.some (by omega)
                  obtain ⟨gp, op, rfl, _⟩ := hobt
                  have hle := h2.ldB (P := Try.prog) (t := 37) (by kernel_rfl) (by kernel_rfl) hx
                  obtain ⟨cs, ⟨q, qc, rfl, e2, e3, e4, _⟩, hcl2, hld⟩ := hle
                  refine W_region ?_
                  refine WR_val rfl (rn_move) ?_
                  refine WR_val rfl (rn_move) ?_
                  refine WR_val rfl (rn_indexSl (e := 37) (sz := 132) (by kernel_rfl) rfl rfl (k) (by omega) (by omega)) ?_
                  refine WR_val rfl (rn_fieldAddr (off := 1) (by kernel_rfl) rfl) ?_
                  refine WR_val rfl (rn_load rfl (Ld.one (by kernel_rfl) ((hld _ hB).2 1 _ rfl))) ?_
                  refine WR_val rfl (rn_move) ?_
                  refine WR_val rfl (rn_eql rfl rfl) ?_
                  refine WR_nil ?_
                  refine thenN ?_
                  refine W_ifp rfl (fun hat => ?_) (fun hat => ?_)
                  ·
                    refine W_seq ?_
                    have hal2 : (bv a.s).length = 128 := by rw [bv_length]; exact e2
                    refine W_region ?_
                    refine WR_val rfl (rn_move) ?_
                    refine WR_val rfl (rn_move) ?_
                    refine WR_val rfl (rn_indexSl (e := 37) (sz := 132) (by kernel_rfl) rfl rfl (k) (by omega) (by omega)) ?_
                    refine WR_val rfl (rn_fieldAddr (off := 3) (by kernel_rfl) rfl) ?_
                    refine WR_val rfl (rn_load rfl (ac_ld (hld _ hB).2 e2)) ?_
                    refine WR_mk rfl (mk_alloc (List.replicate 128 (Value.int .u8 0)) (by kernel_rfl) (fun g23 w23 hg23 hr23 hb23 => ?_))
                    have ge_hB_g23 := Nat.le_trans hB.size hg23
                    have lt_g16_g23 : g16 < g23 := Nat.lt_of_lt_of_le hr16.lt hg23
                    replace hD := hD.newc hb23 hg23 hr23.lt
                    replace hr16 := hr16.new hb23
                    replace hB := hB.acc hb23
                    rw [hzb] at hr23
                    refine WR_sk rfl (sk_storeA 128 (bv a.s) rfl rfl hr23 (by kernel_rfl) (by first | assumption | (simp; done) | (simp [bv_length, *]; done)) (by first | assumption | (simp; done) | (simp [bv_length, *]; done) | rfl) (by first | exact bv_one _ | assumption | (simp [Value.oneCell']; done)) (fun w908 hr23 ho908 => ?_))
                    replace hD := hD.only ho908 (by first | (right; simp; done) | (left; omega))
                    replace hr16 := hr16.only ho908 (Nat.ne_of_lt lt_g16_g23)
                    replace hB := ho908.below hB ge_hB_g23
                    refine WR_nil ?_
                    refine thenN ?_
                    refine W_cut (fun b : Bool => [(20, .bool b), (21, .bool bs), (22, .int .i64 (k : Nat)), (15, .int .i64 (i : Nat)), (0, .int .i64 (m : Int)), (2, .slice (some ⟨gp, op, none⟩) len2 cp2), (9, .pointer (some ⟨g, 0, none⟩)), (13, .pointer (some ⟨g2, 0, none⟩)), (16, .pointer (some ⟨g16, 0, none⟩)), (18, .pointer (some ⟨g18, 0, none⟩)), (23, .pointer (some ⟨g23, 0, none⟩))]) (fun b w' => (bf = true → b = true) ∧ (fstH R = fstH a.s → b = true) ∧ row w' g16 (bv R) 34 ∧ row w' g23 (bv a.s) 34 ∧ Two (DZ g D4) (DZ g2 D2) w.heap.size [] w' ∧ Below w.heap.size w w') ?_ ?_
                    ·
                      refine W_draw' [] (by kernel_rfl) ?_
                      intro w909 hb909 hS909
                      replace hD := hD.new hb909
                      replace hr16 := hr16.new hb909
                      replace hr23 := hr23.new hb909
                      replace hB := hB.acc hb909
                      have hD_d909 := hD
                      have hr16_d909 := hr16
                      have hr23_d909 := hr23
                      have hB_d909 := hB
                      refine WA_take 0 (by kernel_rfl) rfl (fun _ _ => rn_move) ?_
                      refine WA_take 1 (by kernel_rfl) rfl (fun _ _ => rn_move) ?_
                      refine WA_partb 157 rfl (fun hb1 => ?_) (fun hb1 => ?_)
                      ·
                        refine WA_skip 2 (by kernel_rfl) rfl ?_
                        refine WA_skip 3 (by kernel_rfl) rfl ?_
                        refine WA_skip 4 (by kernel_rfl) rfl ?_
                        refine WA_skip 5 (by kernel_rfl) rfl ?_
                        refine WA_skip 6 (by kernel_rfl) rfl ?_
                        refine WA_take 7 (by kernel_rfl) rfl (fun _ _ => rn_pick_t rfl) ?_
                        refine WA_take 8 (by kernel_rfl) rfl (fun _ _ => rn_assign) ?_
                        refine WA_done (by kernel_rfl) ?_
                        refine loopN ⟨true, ⟨rfl, rfl, rfl, rfl, rfl, rfl, rfl, rfl, rfl, rfl, rfl, rfl⟩, fun _ => rfl, fun _ => rfl, hr16, hr23, hD.weak (fun b hb => by cases hb), hB⟩
                      ·
                        refine WA_take 2 (by kernel_rfl) rfl (fun _ _ => rn_sliceAr1' (e := 5) (n := 128) (0) (64) (128) (64) (by kernel_rfl) rfl rfl ⟨_, _, rfl, rfl⟩ rfl (by simp) (by omega) (by omega) (by omega) (by omega) (by omega)) ?_
                        refine WA_take 3 (by kernel_rfl) rfl (fun w' hS' => rn_str (e := 5) (l := fstH R) (by kernel_rfl) (by kernel_rfl) (by kernel_rfl) rfl ((hr16_d909.kpd hS' (by first | (simp; done) | (simp; omega) | (simp [*]; done) | exact notLL (Or.inl (by omega)) | exact notLL (Or.inr (by simp)) | exact fun g hm => Nat.le_trans (by omega) (inLL hm).1 | (intro b o e; cases e; exact notLL (Or.inl (by omega))))).slB 0 64 (by omega) (by omega))) ?_
                        refine WA_take 4 (by kernel_rfl) rfl (fun _ _ => rn_sliceAr1' (e := 5) (n := 128) (0) (64) (128) (64) (by kernel_rfl) rfl rfl ⟨_, _, rfl, rfl⟩ rfl (by simp) (by omega) (by omega) (by omega) (by omega) (by omega)) ?_
                        refine WA_take 5 (by kernel_rfl) rfl (fun w' hS' => rn_str (e := 5) (l := fstH a.s) (by kernel_rfl) (by kernel_rfl) (by kernel_rfl) rfl ((hr23_d909.kpd hS' (by first | (simp; done) | (simp; omega) | (simp [*]; done) | exact notLL (Or.inl (by omega)) | exact notLL (Or.inr (by simp)) | exact fun g hm => Nat.le_trans (by omega) (inLL hm).1 | (intro b o e; cases e; exact notLL (Or.inl (by omega))))).slB 0 64 (by omega) (by omega))) ?_
                        refine WA_take 6 (by kernel_rfl) rfl (fun _ _ => rn_eqlS rfl rfl) ?_
                        refine WA_take 7 (by kernel_rfl) rfl (fun _ _ => rn_pick_f rfl) ?_
                        refine WA_take 8 (by kernel_rfl) rfl (fun _ _ => rn_assign) ?_
                        refine WA_done (by kernel_rfl) ?_
                        refine loopN ⟨_, ⟨rfl, rfl, rfl, rfl, rfl, rfl, rfl, rfl, rfl, rfl, rfl, rfl⟩, (fun e => by rw [hb1] at e; cases e), fun e => decide_eq_true e, hr16, hr23, hD.weak (fun b hb => by cases hb), hB⟩
                    ·
                      clear hr16 hr23 hD hB
                      rintro b f2 w2 ⟨hb2, hb3, hr16, hr23, hD, hB⟩
                      refine W_draw' [] (by kernel_rfl) ?_
                      intro w910 hb910 hS910
                      replace hD := hD.new hb910
                      replace hr16 := hr16.new hb910
                      replace hr23 := hr23.new hb910
                      replace hB := hB.acc hb910
                      have hD_d910 := hD
                      have hr16_d910 := hr16
                      have hr23_d910 := hr23
                      have hB_d910 := hB
                      refine WA_take 0 (by kernel_rfl) rfl (fun _ _ => rn_move) ?_
                      refine WA_take 1 (by kernel_rfl) rfl (fun _ _ => rn_move) ?_
                      refine WA_partb 165 rfl (fun hb1 => ?_) (fun hb1 => ?_)
                      ·
                        refine WA_skip 2 (by kernel_rfl) rfl ?_
                        refine WA_skip 3 (by kernel_rfl) rfl ?_
                        refine WA_skip 4 (by kernel_rfl) rfl ?_
                        refine WA_skip 5 (by kernel_rfl) rfl ?_
                        refine WA_skip 6 (by kernel_rfl) rfl ?_
                        refine WA_take 7 (by kernel_rfl) rfl (fun _ _ => rn_pick_t rfl) ?_
                        refine WA_take 8 (by kernel_rfl) rfl (fun _ _ => rn_assign) ?_
                        refine WA_done (by kernel_rfl) ?_
                        refine blockN ?_
                        refine thenN ?_
                        refine W_region ?_
                        refine WR_val rfl (rn_move) ?_
                        refine WR_val rfl (rn_add rfl rfl (Coup.w64 (by omega))) ?_
                        refine WR_val rfl (rn_assign) ?_
                        refine WR_nil ?_
                        refine loopN ⟨(k + 1, b, true), by omega, ⟨by go_num, rfl, rfl, rfl, rfl, rfl, rfl, rfl, rfl, rfl, rfl⟩, by omega, fun e => hb2 (hbf e), fun _ => rfl, fun j c hj hc hat2 => ?_, hr16, hD.weak (fun b hb => by cases hb), hB⟩
                        by_cases hjk : j < k
                        · have := hall j c hjk hc hat2
                          exact ⟨fun e => hb2 (this.1 e), fun _ => rfl⟩
                        · obtain rfl : j = k := by omega
                          rw [hx] at hc; cases hc
                          exact ⟨hb3, fun _ => rfl⟩
                      ·
                        refine WA_take 2 (by kernel_rfl) rfl (fun _ _ => rn_sliceAr1' (e := 5) (n := 128) (64) (128) (128) (64) (by kernel_rfl) rfl ⟨_, _, rfl, rfl⟩ rfl rfl (by simp) (by omega) (by omega) (by omega) (by omega) (by omega)) ?_
                        refine WA_take 3 (by kernel_rfl) rfl (fun w' hS' => rn_str (e := 5) (l := sndH R) (by kernel_rfl) (by kernel_rfl) (by kernel_rfl) rfl ((hr16_d910.kpd hS' (by first | (simp; done) | (simp; omega) | (simp [*]; done) | exact notLL (Or.inl (by omega)) | exact notLL (Or.inr (by simp)) | exact fun g hm => Nat.le_trans (by omega) (inLL hm).1 | (intro b o e; cases e; exact notLL (Or.inl (by omega))))).slB 64 64 (by omega) (by omega))) ?_
                        refine WA_take 4 (by kernel_rfl) rfl (fun _ _ => rn_sliceAr1' (e := 5) (n := 128) (64) (128) (128) (64) (by kernel_rfl) rfl ⟨_, _, rfl, rfl⟩ rfl rfl (by simp) (by omega) (by omega) (by omega) (by omega) (by omega)) ?_
                        refine WA_take 5 (by kernel_rfl) rfl (fun w' hS' => rn_str (e := 5) (l := sndH a.s) (by kernel_rfl) (by kernel_rfl) (by kernel_rfl) rfl ((hr23_d910.kpd hS' (by first | (simp; done) | (simp; omega) | (simp [*]; done) | exact notLL (Or.inl (by omega)) | exact notLL (Or.inr (by simp)) | exact fun g hm => Nat.le_trans (by omega) (inLL hm).1 | (intro b o e; cases e; exact notLL (Or.inl (by omega))))).slB 64 64 (by omega) (by omega))) ?_
                        refine WA_take 6 (by kernel_rfl) rfl (fun _ _ => rn_eqlS rfl rfl) ?_
                        refine WA_take 7 (by kernel_rfl) rfl (fun _ _ => rn_pick_f rfl) ?_
                        refine WA_take 8 (by kernel_rfl) rfl (fun _ _ => rn_assign) ?_
                        refine WA_done (by kernel_rfl) ?_
                        refine blockN ?_
                        refine thenN ?_
                        refine W_region ?_
                        refine WR_val rfl (rn_move) ?_
                        refine WR_val rfl (rn_add rfl rfl (Coup.w64 (by omega))) ?_
                        refine WR_val rfl (rn_assign) ?_
                        refine WR_nil ?_
                        refine loopN ⟨(k + 1, b, _), by omega, ⟨by go_num, rfl, rfl, rfl, rfl, rfl, rfl, rfl, rfl, rfl, rfl⟩, by omega, fun e => hb2 (hbf e), (fun e => by have := hbs e; rw [hb1] at this; cases this), fun j c hj hc hat2 => ?_, hr16, hD.weak (fun b hb => by cases hb), hB⟩
                        by_cases hjk : j < k
                        · have := hall j c hjk hc hat2
                          exact ⟨fun e => hb2 (this.1 e), fun e => by have h9 := this.2 e; rw [hb1] at h9; cases h9⟩
                        · obtain rfl : j = k := by omega
                          rw [hx] at hc; cases hc
                          exact ⟨hb3, fun e => decide_eq_true e⟩
                  ·
                    refine W_skip ?_
                    refine blockN ?_
                    refine thenN ?_
                    refine W_region ?_
                    refine WR_val rfl (rn_move) ?_
                    refine WR_val rfl (rn_add rfl rfl (Coup.w64 (by omega))) ?_
                    refine WR_val rfl (rn_assign) ?_
                    refine WR_nil ?_
                    refine loopN ⟨(k + 1, bf, bs), by omega, ⟨by go_num, rfl, rfl, rfl, rfl, rfl, rfl, rfl, rfl, rfl, rfl⟩, by omega, hbf, hbs, fun j c hj hc hat2 => ?_, hr16, hD.weak (fun b hb => by cases hb), hB⟩
                    by_cases hjk : j < k
                    · exact hall j c hjk hc hat2
                    · obtain rfl : j = k := by omega
                      rw [hx] at hc; cases hc
                      exact absurd hat2 hat
                ·
                  have hbf1 : bf = true := by
                    rcases hF with e | ⟨j, a, hj, hat, e⟩
                    · exact hbf e
                    · exact (hall j a (by have := (List.getElem?_eq_some_iff.1 hj).1; omega) hj hat).1 e
                  have hbs1 : bs = true := by
                    rcases hS with e | ⟨j, a, hj, hat, e⟩
                    · exact hbs e
                    · exact (hall j a (by have := (List.getElem?_eq_some_iff.1 hj).1; omega) hj hat).2 e
                  subst hbf1
                  subst hbs1
                  refine W_exit ?_
                  refine thenX ?_
                  refine loopX ?_
                  refine blockX ?_
                  refine thenN ?_
                  refine W_seq ?_
                  refine W_region ?_
                  refine WR_val rfl (rn_move) ?_
                  refine WR_val rfl (rn_not rfl) ?_
                  refine WR_val rfl (rn_move) ?_
                  refine WR_fnb 174 rfl (rfl) ?_
                  refine WR_yes rfl ?_
                  refine WR_val rfl (rn_move) ?_
                  refine WR_yes rfl ?_
                  refine WR_val rfl (rn_not rfl) ?_
                  refine WR_val rfl (rn_pick_f rfl) ?_
                  refine WR_nil ?_
                  refine thenN ?_
                  refine W_fnb rfl (rfl) ?_
                  refine W_skip ?_
                  refine blockN ?_
                  refine thenN ?_
                  refine W_region ?_
                  refine WR_val rfl (rn_move) ?_
                  refine WR_val rfl (rn_add rfl rfl (Coup.w64 (by omega))) ?_
                  refine WR_val rfl (rn_assign) ?_
                  refine WR_nil ?_
                  refine loopN ⟨i + 1, by omega, ⟨by go_num, rfl, rfl, rfl, rfl, rfl⟩, by omega, hD, hB⟩
              ·
                refine W_exit ?_
                refine thenX ?_
                refine loopX ?_
                refine blockX ?_
                refine thenN ?_
                refine W_seq ?_
                refine W_region ?_
                refine WR_ent rfl (rn_call (by kernel_rfl) rfl) (known10 wr) ?_
                rintro _ w178 ⟨rfl, hb178⟩
                replace hD := hD.new hb178
                replace hB := hB.acc hb178
                refine WR_val rfl (rn_assign) ?_
                refine WR_nil ?_
                refine thenN ?_
                refine W_ret ?_
                refine ret_ret [_] ⟨rfl, trivial⟩ ?_
                exact ⟨rfl, hB⟩
end Go.Proofs.Ytpndhildmfmcgaa
