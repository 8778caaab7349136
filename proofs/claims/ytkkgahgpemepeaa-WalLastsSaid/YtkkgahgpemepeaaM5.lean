/- Texts of one proof, laid one behind the other: WalZj, WalZm, WalZn, WalZo, WalZp, WalZq, WalZr. -/
import Derived.Test.YtkkgahgpemepeaaM4
/- The law WalFormats: behind Format there is nothing. -/
namespace Go.Proofs.Ytkkgahgpemepeaa
open Go Go.RowKit Coup Go.ChangeShapes Go.WideShapes Go.Deep

def fitZ (all n : Int) : Bool := decide (4 ≤ n ∧ n ≤ 4000 ∧ n < all)
set_option maxRecDepth 20000 in
theorem rfitsNeg (all n : Int) (w : World) (h0 : all < 0) : Calls Try.prog 29 [.int .i64 all, .int .i64 n].toArray w (Ret fun v w' => v = .bool false ∧ w = w') := by
  refine calls_W (fn := Try.f29) (rs := [.tmp 4]) (n := 16) Try.func29 rfl rfl Try.ntmps29 (by kernel_rfl) rfl ?_
  refine W_seq ?_
  refine W_region ?_
  refine WR_val rfl (rn_assign) ?_
  refine WR_nil ?_
  refine thenN ?_
  refine W_seq ?_
  refine W_region ?_
  refine WR_val rfl (rn_move) ?_
  refine WR_val rfl (rn_geq rfl rfl) ?_
  refine WR_val rfl (rn_move) ?_
  refine WR_part 7 rfl (fun h1 => ?_) (fun h1 => ?_)
  ·
    refine WR_yes rfl ?_
    refine WR_val rfl (rn_move) ?_
    refine WR_yes rfl ?_
    refine WR_val rfl (rn_leq rfl rfl) ?_
    refine WR_val rfl (rn_pick_t rfl) ?_
    refine WR_val rfl (rn_move) ?_
    refine WR_part 11 rfl (fun h2 => ?_) (fun h2 => ?_)
    ·
      refine WR_yes rfl ?_
      refine WR_val rfl (rn_move) ?_
      refine WR_yes rfl ?_
      refine WR_val rfl (rn_move) ?_
      refine WR_yes rfl ?_
      refine WR_val rfl (rn_gtr rfl rfl) ?_
      refine WR_val rfl (rn_pick_t rfl) ?_
      refine WR_val rfl (rn_assign) ?_
      refine WR_nil ?_
      refine thenN ?_
      refine W_ret ?_
      refine ret_ret [_] ⟨rfl, trivial⟩ ?_
      exact ⟨by show Value.bool (decide (n < all)) = _; rw [decide_eq_false (by omega)], rfl⟩
    ·
      refine WR_no rfl rfl ?_
      refine WR_no rfl rfl ?_
      refine WR_no rfl rfl ?_
      refine WR_val rfl (rn_pick_f rfl) ?_
      refine WR_val rfl (rn_assign) ?_
      refine WR_nil ?_
      refine thenN ?_
      refine W_ret ?_
      refine ret_ret [_] ⟨rfl, trivial⟩ ?_
      exact ⟨rfl, rfl⟩
  ·
    refine WR_no rfl rfl ?_
    refine WR_no rfl rfl ?_
    refine WR_val rfl (rn_pick_f rfl) ?_
    refine WR_val rfl (rn_move) ?_
    refine WR_no rfl rfl ?_
    refine WR_no rfl rfl ?_
    refine WR_no rfl rfl ?_
    refine WR_val rfl (rn_pick_f rfl) ?_
    refine WR_val rfl (rn_assign) ?_
    refine WR_nil ?_
    refine thenN ?_
    refine W_ret ?_
    refine ret_ret [_] ⟨rfl, trivial⟩ ?_
    exact ⟨rfl, rfl⟩
theorem rfitsZ (all n : Int) (w : World) (ha : wf64 all) (hn : wf64 n) : Calls Try.prog 29 [.int .i64 all, .int .i64 n].toArray w (Ret fun v w' => v = .bool (fitZ all n) ∧ w = w') := by
  by_cases h0 : 0 ≤ all
  · refine (rfits29 all n w h0).to fun v w' ⟨h1, h2⟩ => ⟨?_, h2⟩
    rw [h1]
    congr 1
    unfold fitsN fitZ
    exact decide_eq_decide.2 ⟨fun h => ⟨h.1, h.2.1, by omega⟩, fun h => ⟨h.1, h.2.1, by omega⟩⟩
  · have hz : fitZ all n = false := decide_eq_false (by omega)
    rw [hz]
    exact rfitsNeg all n w (by omega)
/-- A disk on which nothing is open is by a loss of power what it was. -/
theorem crash_read {D : Dk} {i : Nat} (picks : List Int) (hb : openB D i = false) : readD (crashD D picks) i = readD D i := by
  have e : ver (crashD D picks) i = ver (setAll D (setXs D fun k i => leftS (ver D i) (picks.getD k 0))) i := rfl
  rw [readD, readD, e, ver_unsettled hb]
theorem fmt_shut {D : Dk} {k : Nat} (h : Alive D k) (n i : Nat) : openB (fmtD D n) i = false := by
  obtain ⟨h1, h2⟩ := zeros_alive h (1 + n)
  obtain ⟨_, h5⟩ := flush_alive h1
  obtain ⟨h6, _⟩ := h5.writeA 0 (headB 1 1)
  rw [fmtD]
  exact flush_shut (flush_alive h6).1 i
theorem secD_fmt {D D4 : Dk} {n m : Nat} (hm : 1 + n ≤ m) (h : ∀ j, j < m → readD D4 j = if j = 0 then headB 1 1 else if j < 1 + n then zeroS else readD D j) :
    (List.replicate (n + 1) zeroS ++ (secD D m).drop (n + 1)).set 0 (headB 1 1) = secD D4 m := by
  have hl := secD_len D m
  refine List.ext_getElem? fun j => ?_
  rw [List.getElem?_set]
  by_cases hj : j < m
  · rw [secD_get D4 hj, h j hj]
    by_cases h0 : 0 = j
    · subst h0
      rw [if_pos rfl, if_pos rfl, if_pos (by rw [List.length_append, List.length_replicate]; omega)]
    · rw [if_neg h0, if_neg fun e => h0 e.symm]
      by_cases h1 : j < 1 + n
      · rw [if_pos h1, List.getElem?_append_left (by rw [List.length_replicate]; omega), List.getElem?_replicate, if_pos (by omega)]
      · rw [if_neg h1, List.getElem?_append_right (by rw [List.length_replicate]; omega), List.length_replicate, List.getElem?_drop, show n + 1 + (j - (n + 1)) = j by omega, secD_get D hj]
  · rw [if_neg (by omega), List.getElem?_eq_none (by rw [List.length_append, List.length_replicate, List.length_drop]; omega), List.getElem?_eq_none (by rw [secD_len]; omega)]
theorem zs_set (L : List Sec) {i : Nat} (hi : i < L.length) : (List.replicate i zeroS ++ L.drop i).set i zeroS = List.replicate (i + 1) zeroS ++ L.drop (i + 1) := by
  obtain ⟨a, ha⟩ : ∃ a, L.drop i = a :: L.drop (i + 1) := ⟨L[i], List.drop_eq_getElem_cons hi⟩
  rw [ha, List.set_append_right _ _ (by rw [List.length_replicate]; exact Nat.le_refl _), List.length_replicate, Nat.sub_self, List.set_cons_zero, List.replicate_succ', List.append_assoc]; rfl
theorem zs_ok {L : List Sec} (h : secsOk L) (i : Nat) : secsOk (List.replicate i zeroS ++ L.drop i) := fun s hs => by
  rcases List.mem_append.1 hs with h1 | h1
  · rw [(List.mem_replicate.1 h1).2, zeroS, List.length_replicate]
  · exact h s (List.mem_of_mem_drop h1)
theorem zs_len {L : List Sec} {i : Nat} (hi : i ≤ L.length) : (List.replicate i zeroS ++ L.drop i).length = L.length := by rw [List.length_append, List.length_replicate, List.length_drop]; omega
section
variable {Y : World → List Nat → Prop} [Thing Y] {g lo : Nat} {L : List Nat} {D : Dk} {w : World}
/-- An empty log on a disk alive is opened. -/
theorem openFresh (h : Two (DZ g D) Y lo L w) (n : Nat) {k : Nat} (ha : Alive D k) (hk : k ≤ 80000) (hf : fitsN D.V.length n = true) (h0 : readD D 0 = headB 1 1) (hz : ∀ j, j < n → readD D (1 + j) = zeroS) :
    Calls Try.prog 24 [.pointer (some ⟨g, 0, none⟩), .int .i64 (n : Int)].toArray w (Ret fun v w' => (∃ x p c, v = .tuple #[.pointer (some ⟨x, 0, none⟩), .slice p 0 c, .int .i64 0]) ∧ LoL lo L w w') := by
  obtain ⟨e1, e2, e3⟩ := open_head (D := D) (c := 1) (s := 1) (n := n) hf h0 (by omega) (by omega) (by omega)
  refine (openYes h n e1 (short_of ha.short (by omega))).to ?_
  rintro v w' ⟨ok, D2, C, s, S, hok, hD2, hC, hs, hS, hLL, hh⟩
  rw [(save_alive ha (C + 1) s).1] at hok
  subst hok
  have hR : recsOf D (headG D n) = [] := by
    rw [recsOf, show (headG D n).size = n from Int.toNat_natCast n, secL_zeros hz, recs_zeros]
  rw [hR] at hS
  subst hS
  rcases hh with ⟨h, _⟩ | ⟨_, x, p, c, e, _⟩
  · cases h
  · exact ⟨⟨x, p, c, e⟩, hLL⟩
end
set_option maxRecDepth 20000 in
set_option maxHeartbeats 2000000 in
theorem walFormatsC (many size : Int) (p : Option Addr) (n cp : Nat) (R : List CellT) (pp : Option Addr) (np pc : Nat) (picks : List Int) (w : World) (wm : wf64 many) (ws : wf64 size) (hR : ElsAt (CeQ w) w 137 p n R) (hp : SlAt w pp np 1 (iv picks)) :
    Calls Try.prog 5 [.int .i64 many, .int .i64 size, .slice p n cp, .slice pp np pc].toArray w (Ret fun v w' => v = .bool true ∧ Below w.heap.size w w') := by
  have hB := Below.refl w.heap.size w
  have hml : maxLen = 9223372036854775807 := by decide
  have hpl : picks.length = np := by simpa [iv_length] using hp.len
  obtain ⟨Z, hzz, hzb, hzl2⟩ := zeroSQ
  have hZl : Z.length = 128 := by rw [← bv_length]; exact hzl2
  have hfit := fun w' => rfitsZ many size w' wm ws
  have hHd := fun w' => rhead28 1 1 (by omega) (by omega) w'
  rw [show ((1 : Nat) : Int) = 1 from rfl] at hHd
  have hHl := headB_len 1 1
  have hfmt := fun (D : Dk) (k n : Nat) (h : Alive D k) => fmt_alive h n
  have hsf := fun (D D4 : Dk) (n m : Nat) (hm : 1 + n ≤ m) => secD_fmt (D := D) (D4 := D4) hm
  have hopf := fun (g : Nat) (ga n k m : Nat) (D : Dk) (w' : World) (h : Two (DZ g D) None w.heap.size [ga] w') => openFresh h n (k := k)
  obtain ⟨H, hHe⟩ : ∃ H, headB 1 1 = H := ⟨_, rfl⟩
  rw [hHe] at hHd hHl
  simp only [hHe] at hfmt hsf hopf
  clear hHe
  refine calls_W (fn := Try.f5) (rs := [.tmp 8]) (n := 93) Try.func5 rfl rfl Try.ntmps5 (by kernel_rfl) rfl ?_
  refine W_seq ?_
  refine W_region ?_
  refine WR_val rfl (rn_assign) ?_
  refine WR_nil ?_
  refine thenN ?_
  refine W_seq ?_
  refine W_seq ?_
  refine W_region ?_
  refine WR_val rfl (rn_move) ?_
  refine WR_val rfl (rn_gtr rfl rfl) ?_
  refine WR_val rfl (rn_move) ?_
  refine WR_part 18 rfl (fun h80 => ?_) (fun h80 => ?_)
  ·
    refine WR_no rfl rfl ?_
    refine WR_no rfl rfl ?_
    refine WR_no rfl rfl ?_
    refine WR_val rfl (rn_pick_t rfl) ?_
    refine WR_val rfl (rn_move) ?_
    refine WR_no rfl rfl ?_
    refine WR_no rfl rfl ?_
    refine WR_no rfl rfl ?_
    refine WR_val rfl (rn_pick_t rfl) ?_
    refine WR_val rfl (rn_move) ?_
    refine WR_no rfl rfl ?_
    refine WR_no rfl rfl ?_
    refine WR_no rfl rfl ?_
    refine WR_no rfl rfl ?_
    refine WR_val rfl (rn_pick_t rfl) ?_
    refine WR_nil ?_
    refine thenN ?_
    refine W_tb rfl (rfl) ?_
    refine W_seq ?_
    refine W_region ?_
    refine WR_ent rfl (rn_call (by kernel_rfl) rfl) (known7 w) ?_
    rintro _ w34 ⟨rfl, hb34⟩
    replace hB := hB.acc hb34
    refine WR_val rfl (rn_assign) ?_
    refine WR_nil ?_
    refine thenN ?_
    refine W_ret ?_
    refine thenR ?_
    refine ret_ret [_] ⟨rfl, trivial⟩ ?_
    exact ⟨rfl, hB⟩
  ·
    refine WR_yes rfl ?_
    refine WR_val rfl (rn_move) ?_
    refine WR_yes rfl ?_
    refine WR_val rfl (rn_lenSl (e := 109) (sz := 137) (by kernel_rfl) rfl rfl) ?_
    refine WR_yes rfl ?_
    refine WR_val rfl (rn_gtr rfl rfl) ?_
    refine WR_val rfl (rn_pick_f rfl) ?_
    refine WR_val rfl (rn_move) ?_
    refine WR_part 23 rfl (fun h60 => ?_) (fun h60 => ?_)
    ·
      refine WR_no rfl rfl ?_
      refine WR_no rfl rfl ?_
      refine WR_no rfl rfl ?_
      refine WR_val rfl (rn_pick_t rfl) ?_
      refine WR_val rfl (rn_move) ?_
      refine WR_no rfl rfl ?_
      refine WR_no rfl rfl ?_
      refine WR_no rfl rfl ?_
      refine WR_no rfl rfl ?_
      refine WR_val rfl (rn_pick_t rfl) ?_
      refine WR_nil ?_
      refine thenN ?_
      refine W_tb rfl (rfl) ?_
      refine W_seq ?_
      refine W_region ?_
      refine WR_ent rfl (rn_call (by kernel_rfl) rfl) (known7 w) ?_
      rintro _ w34 ⟨rfl, hb34⟩
      replace hB := hB.acc hb34
      refine WR_val rfl (rn_assign) ?_
      refine WR_nil ?_
      refine thenN ?_
      refine W_ret ?_
      refine thenR ?_
      refine ret_ret [_] ⟨rfl, trivial⟩ ?_
      exact ⟨rfl, hB⟩
    ·
      refine WR_yes rfl ?_
      refine WR_val rfl (rn_move) ?_
      refine WR_yes rfl ?_
      refine WR_val rfl (rn_lenSl (e := 3) (sz := 1) (by kernel_rfl) rfl rfl) ?_
      refine WR_yes rfl ?_
      refine WR_val rfl (rn_gtr rfl rfl) ?_
      refine WR_val rfl (rn_pick_f rfl) ?_
      refine WR_val rfl (rn_move) ?_
      refine WR_part 28 rfl (fun h200 => ?_) (fun h200 => ?_)
      ·
        refine WR_no rfl rfl ?_
        refine WR_no rfl rfl ?_
        refine WR_no rfl rfl ?_
        refine WR_no rfl rfl ?_
        refine WR_val rfl (rn_pick_t rfl) ?_
        refine WR_nil ?_
        refine thenN ?_
        refine W_tb rfl (rfl) ?_
        refine W_seq ?_
        refine W_region ?_
        refine WR_ent rfl (rn_call (by kernel_rfl) rfl) (known7 w) ?_
        rintro _ w34 ⟨rfl, hb34⟩
        replace hB := hB.acc hb34
        refine WR_val rfl (rn_assign) ?_
        refine WR_nil ?_
        refine thenN ?_
        refine W_ret ?_
        refine thenR ?_
        refine ret_ret [_] ⟨rfl, trivial⟩ ?_
        exact ⟨rfl, hB⟩
      ·
        refine WR_yes rfl ?_
        refine WR_val rfl (rn_move) ?_
        refine WR_yes rfl ?_
        refine WR_val rfl (rn_move) ?_
        refine WR_yes rfl ?_
        refine WR_ent rfl (rn_call (by kernel_rfl) rfl) (hfit w) ?_
        rintro _ _ ⟨rfl, rfl⟩
        refine WR_yes rfl ?_
        refine WR_val rfl (rn_not rfl) ?_
        refine WR_val rfl (rn_pick_f rfl) ?_
        refine WR_nil ?_
        refine thenN ?_
        refine W_ifnb rfl (fun hnf => ?_) (fun hnf => ?_)
        ·
          refine W_seq ?_
          refine W_region ?_
          refine WR_ent rfl (rn_call (by kernel_rfl) rfl) (known7 w) ?_
          rintro _ w34 ⟨rfl, hb34⟩
          replace hB := hB.acc hb34
          refine WR_val rfl (rn_assign) ?_
          refine WR_nil ?_
          refine thenN ?_
          refine W_ret ?_
          refine thenR ?_
          refine ret_ret [_] ⟨rfl, trivial⟩ ?_
          exact ⟨rfl, hB⟩
        ·
          have hft : fitZ many size = true := hnf
          have hobt := of_decide_eq_true hft
          obtain ⟨hf1, hf2, hf3⟩ := hobt
          have hobt : ∃ m : Nat, many = m := ⟨many.toNat, by omega⟩
          obtain ⟨m, rfl⟩ := hobt
          have hobt : ∃ k : Nat, size = k := ⟨size.toNat, by omega⟩
          obtain ⟨k, rfl⟩ := hobt
          have hfm : fitsN m k = true := decide_eq_true ⟨by omega, by omega, by omega⟩
          have hN := fun w' => newC (w := w') m (by omega) (by omega)
          refine W_skip ?_
          refine thenN ?_
          refine W_seq ?_
          refine W_region ?_
          refine WR_val rfl (rn_move) ?_
          have hB_0 := hB
          refine WR_ent rfl (rn_call (by kernel_rfl) rfl) (hN w) ?_
          rintro _ w37 ⟨g, B, rfl, hX, hBlo, hb37⟩
          replace hB := hB.acc hb37
          have hD : Two (DZ g (newD m)) None w.heap.size [] w37 := Two.one hX (fun b hb => ⟨Nat.le_trans hB_0.size (hBlo b hb), by simp⟩) hB.size (by simp)
          refine WR_val rfl (rn_move) ?_
          refine WR_val rfl (rn_extract rfl rfl) ?_
          refine WR_val rfl (rn_extract rfl rfl) ?_
          refine WR_val rfl (rn_assign) ?_
          refine WR_val rfl (rn_assign) ?_
          refine WR_nil ?_
          refine thenN ?_
          refine W_seq ?_
          refine W_seq ?_
          refine W_region ?_
          refine WR_val rfl (rn_move) ?_
          refine WR_val rfl (rn_neq rfl rfl) ?_
          refine WR_nil ?_
          refine thenN ?_
          refine W_fp rfl ((by omega)) ?_
          refine W_skip ?_
          refine thenN ?_
          refine W_seq ?_
          refine W_region ?_
          refine WR_val rfl (rn_move) ?_
          refine WR_val rfl (rn_move) ?_
          have hwr := write30 hD (k0 := 1) (by omega) (alive_new (n := m) (by omega)) p n cp R (by omega) hR hB
          refine WR_ent rfl (rn_call (by kernel_rfl) rfl) (hwr) ?_
          rintro _ w44 ⟨⟨D1, ha1, hl1, hD⟩, hb44⟩
          replace hB := belLL hB hb44 (by omega)
          rw [newD_len] at hl1
          refine WR_nil ?_
          refine thenN ?_
          refine W_seq ?_
          refine W_region ?_
          refine WR_val rfl (rn_move) ?_
          refine WR_val rfl (rn_move) ?_
          have hDk1 := (tOk hD).1
          have hBs := hB.size
          refine WR_ent rfl (rn_call (by kernel_rfl) rfl) (sectors31 hD m (by omega) (by omega)) ?_
          rintro _ w47 ⟨hu, hb47⟩
          obtain ⟨ga, oa, ca, rfl, hga1, hga2, hca⟩ := hu.form' (by omega)
          replace hD := hD.newc hb47 hga1 hga2
          have hown : OwnG _ w.heap.size 63 128 ga oa m ca _ := hu.mono hBs
          replace hB := hB.acc hb47
          refine WR_val rfl (rn_assign) ?_
          refine WR_nil ?_
          refine thenN ?_
          refine W_seq ?_
          refine W_seq ?_
          refine W_region ?_
          refine WR_val rfl (rn_move) ?_
          refine WR_val rfl (rn_move) ?_
          have hfm2 := format26 hD k ⟨by omega, by omega⟩ (ha1.weak (by omega))
          have hfa := hfmt D1 _ k ha1
          have hfs := fmt_shut ha1 k
          rw [hl1, hfm, if_pos rfl, if_pos rfl, Int.toNat_natCast] at hfm2
          rw [hl1] at hfa
          have hobt : ∃ D3, fmtD D1 k = D3 := ⟨_, rfl⟩
          obtain ⟨D3, hD3⟩ := hobt
          rw [hD3] at hfm2 hfa hfs
          refine WR_ent rfl (rn_call (by kernel_rfl) rfl) (hfm2) ?_
          rintro _ w50 ⟨rfl, hD, hb50⟩
          replace hown := hown.kpd hb50.kp (by first | (refine notLL ?_; left; omega) | (refine notLL ?_; right; simp; done) | (intro b o e; cases e; first | (refine notLL ?_; left; omega) | (refine notLL ?_; right; simp; done) | (refine notLL ?_; right; simp [*]; done)) | (intro b hb; refine notLL ?_; left; omega) | (intro b hb e; cases e; exact notLL (by right; simp [*]) hb))
          replace hB := belLL hB hb50 (by omega)
          refine WR_val rfl (rn_neq rfl rfl) ?_
          refine WR_val rfl (rn_move) ?_
          refine WR_fp 52 rfl ((by omega)) ?_
          refine WR_yes rfl ?_
          refine WR_val rfl (rn_move) ?_
          refine WR_yes rfl ?_
          refine WR_val rfl (rn_move) ?_
          refine WR_yes rfl ?_
          have hcr := tCrash hD pp np pc picks (hp.below hB (Nat.le_refl _)) (fun h0 b o e => .inl (by obtain ⟨g', o', e', hl⟩ := hp.some (by omega); rw [e'] at e; cases e; exact hl))
          have hca2 : Alive (crashD D3 picks) 1 := alive_crash hfa.1.short (by omega) hfa.1.pos picks
          have hcl := crash_len D3 picks
          have hcr2 : ∀ j, j < m → readD (crashD D3 picks) j = if j = 0 then H else if j < 1 + k then zeroS else readD D1 j := fun j hj => (crash_read picks (hfs j)).trans (hfa.2.2 j hj)
          rw [hfa.2.1] at hcl
          have hobt : ∃ D4, crashD D3 picks = D4 := ⟨_, rfl⟩
          obtain ⟨D4, hD4⟩ := hobt
          rw [hD4] at hcr hca2 hcl hcr2
          refine WR_ent rfl (rn_call (by kernel_rfl) rfl) (hcr) ?_
          rintro _ w55 ⟨rfl, hD, hb55⟩
          replace hown := hown.kpd hb55.kp (by first | (refine notLL ?_; left; omega) | (refine notLL ?_; right; simp; done) | (intro b o e; cases e; first | (refine notLL ?_; left; omega) | (refine notLL ?_; right; simp; done) | (refine notLL ?_; right; simp [*]; done)) | (intro b hb; refine notLL ?_; left; omega) | (intro b hb e; cases e; exact notLL (by right; simp [*]) hb))
          replace hB := belLL hB hb55 (by omega)
          refine WR_yes rfl ?_
          refine WR_val rfl (rn_neq rfl rfl) ?_
          refine WR_val rfl (rn_pick_f rfl) ?_
          refine WR_nil ?_
          refine thenN ?_
          refine W_fp rfl ((by omega)) ?_
          refine W_skip ?_
          refine thenN ?_
          refine W_seq ?_
          refine W_seq ?_
          refine W_region ?_
          refine WR_val rfl (rn_assign) ?_
          refine WR_nil ?_
          refine thenN ?_
          refine W_block ?_
          have hsok := secD_ok hDk1 (n := m) (by omega)
          have hsl := secD_len D1 m
          have hfin := hsf D1 D4 k m (by omega) hcr2
          have h0z : (List.replicate 0 zeroS ++ (secD D1 m).drop 0) = secD D1 m := by simp
          rw [← h0z] at hown
          have hobt : ∃ S1, secD D1 m = S1 := ⟨_, rfl⟩
          obtain ⟨S1, hS1⟩ := hobt
          rw [hS1] at hown hsok hsl hfin
          refine W_loop (α := Nat) 0 (fun i => [(12, .int .i64 (i : Nat)), (11, .slice (some ⟨ga, oa, none⟩) m ca), (1, .int .i64 (k : Nat)), (0, .int .i64 (m : Nat)), (9, .pointer (some ⟨g, 0, none⟩))])
            (fun i w' => i ≤ k + 1 ∧ OwnG w' w.heap.size 63 128 ga oa m ca (bv (List.replicate i zeroS ++ S1.drop i).flatten) ∧ Two (DZ g D4) None w.heap.size [ga] w' ∧ Below w.heap.size w w') (fun i => k + 1 - i)
            ⟨rfl, rfl, rfl, rfl, rfl, rfl⟩ ⟨Nat.zero_le _, hown, hD, hB⟩ ?_
          clear hown hD hB
          rintro i f wr ⟨hi, hown, hD, hB⟩
          have hzl := zs_len (L := S1) (i := i) (by omega)
          have hzo := zs_ok hsok i
          have hzfl := flat_len hzo
          rw [hzl, hsl] at hzfl
          refine W_seq ?_
          refine W_seq ?_
          refine W_region ?_
          refine WR_val rfl (rn_move) ?_
          refine WR_val rfl (rn_move) ?_
          refine WR_val rfl (rn_leq rfl rfl) ?_
          refine WR_nil ?_
          refine thenN ?_
          refine W_ifp rfl (fun hle => ?_) (fun hle => ?_)
          ·
            refine W_skip ?_
            refine thenN ?_
            refine W_seq ?_
            refine W_block ?_
            refine W_region ?_
            refine WR_val rfl (rn_move) ?_
            refine WR_val rfl (rn_move) ?_
            refine WR_val rfl (rn_zeroed (bv Z) (by rw [← hzb]; kernel_rfl)) ?_
            refine WR_val rfl (rn_indexSl (e := 63) (sz := 128) (by kernel_rfl) rfl rfl (i) (by omega) (by omega)) ?_
            refine WR_sk rfl (sk_storeO (bv Z) (i * 128) hown rfl rfl (by rw [hzl2]; kernel_rfl) (by simp only [bv_length]; omega) (bv_one _) (fun w901 hown ho901 => ?_))
            replace hD := hD.only ho901 (by first | (right; simp; done) | (left; omega))
            replace hB := ho901.below hB (by omega)
            rw [← hzz, flat_set hzo (by omega) (by rw [hzz]; exact hZl), zs_set S1 (by omega)] at hown
            refine WR_nil ?_
            refine blockN ?_
            refine thenN ?_
            refine W_region ?_
            refine WR_val rfl (rn_move) ?_
            refine WR_val rfl (rn_add rfl rfl (Coup.w64 (by omega))) ?_
            refine WR_val rfl (rn_assign) ?_
            refine WR_nil ?_
            refine loopN ⟨i + 1, by omega, ⟨by go_num, rfl, rfl, rfl, rfl, rfl⟩, by omega, hown, hD, hB⟩
          ·
            have hik : i = k + 1 := by omega
            subst hik
            refine W_exit ?_
            refine thenX ?_
            refine loopX ?_
            refine blockX ?_
            refine thenN ?_
            refine W_seq ?_
            refine W_region ?_
            refine WR_val rfl (rn_move) ?_
            refine WR_ent rfl (rn_call (by kernel_rfl) rfl) (hHd wr) ?_
            rintro _ w68 ⟨rfl, hb68⟩
            replace hD := hD.new hb68
            replace hown := hown.new hb68
            replace hB := hB.acc hb68
            refine WR_val rfl (rn_indexSl (e := 63) (sz := 128) (by kernel_rfl) rfl rfl (0) (by omega) (by omega)) ?_
            refine WR_sk rfl (sk_storeO (bv H) (0 * 128) hown rfl rfl (by rw [bv_length, hHl]; kernel_rfl) (by simp only [bv_length]; omega) (bv_one _) (fun w902 hown ho902 => ?_))
            replace hD := hD.only ho902 (by first | (right; simp; done) | (left; omega))
            replace hB := ho902.below hB (by omega)
            rw [flat_set hzo (by omega) hHl, hfin] at hown
            refine WR_nil ?_
            refine thenN ?_
            refine W_seq ?_
            refine W_seq ?_
            refine W_region ?_
            refine WR_val rfl (rn_move) ?_
            refine WR_val rfl (rn_move) ?_
            have hDk4 := (tOk hD).1
            have hso4 := secD_ok hDk4 (n := m) (by omega)
            have hsl4 := secD_len D4 m
            refine WR_ent rfl (rn_call (by kernel_rfl) rfl) (sectors31 hD m (by omega) (by omega)) ?_
            rintro _ w72 ⟨hu2, hb72⟩
            replace hD := hD.new hb72
            replace hown := hown.new hb72
            replace hB := hB.acc hb72
            refine WR_val rfl (rn_move) ?_
            have hs2 := hu2.form
            obtain ⟨pu2, cu2, rfl⟩ := hs2
            have hown2 := ownsAt.sl hown
            refine WR_ent rfl (rn_call (by kernel_rfl) rfl) (same33 (secD D4 m) (secD D4 m) hso4 hso4 pu2 _ m m cu2 ca w72 hu2.sl hown2 hsl4 hsl4 (by omega)) ?_
            rintro _ w74 ⟨⟨bb, rfl, hbb⟩, hb74⟩
            replace hD := hD.new hb74
            replace hown := hown.new hb74
            replace hu2 := hu2.new hb74
            replace hB := hB.acc hb74
            refine WR_val rfl (rn_not rfl) ?_
            refine WR_nil ?_
            refine thenN ?_
            refine W_fnb rfl ((by rw [hbb.2 rfl])) ?_
            refine W_skip ?_
            refine thenN ?_
            refine W_seq ?_
            refine W_region ?_
            refine WR_val rfl (rn_move) ?_
            refine WR_val rfl (rn_move) ?_
            have hop := hopf g ga k 1 m D4 w74 hD hca2 (by omega) (by rw [hcl]; exact hfm) (by rw [hcr2 0 (by omega), if_pos rfl]) (fun j hj => by rw [hcr2 (1 + j) (by omega), if_neg (by omega), if_pos (by omega)])
            refine WR_ent rfl (rn_call (by kernel_rfl) rfl) (hop) ?_
            rintro _ w79 ⟨⟨x, pq, c, rfl⟩, hb79⟩
            replace hB := belLL hB hb79 (by omega)
            refine WR_val rfl (rn_move) ?_
            refine WR_val rfl (rn_extract rfl rfl) ?_
            refine WR_val rfl (rn_extract rfl rfl) ?_
            refine WR_val rfl (rn_extract rfl rfl) ?_
            refine WR_val rfl (rn_assign) ?_
            refine WR_val rfl (rn_assign) ?_
            refine WR_val rfl (rn_assign) ?_
            refine WR_nil ?_
            refine thenN ?_
            refine W_seq ?_
            refine W_region ?_
            refine WR_val rfl (rn_move) ?_
            refine WR_val rfl (rn_eql rfl rfl) ?_
            refine WR_val rfl (rn_move) ?_
            refine WR_tp 85 rfl ((by omega)) ?_
            refine WR_yes rfl ?_
            refine WR_val rfl (rn_move) ?_
            refine WR_yes rfl ?_
            refine WR_val rfl (rn_lenSl (e := 25) (sz := 1) (by kernel_rfl) rfl rfl) ?_
            refine WR_yes rfl ?_
            refine WR_val rfl (rn_eql rfl rfl) ?_
            refine WR_val rfl (rn_pick_t rfl) ?_
            refine WR_val rfl (rn_move) ?_
            refine WR_tp 90 rfl ((by omega)) ?_
            refine WR_yes rfl ?_
            refine WR_ent rfl (rn_call (by kernel_rfl) rfl) (known7 w79) ?_
            rintro _ w91 ⟨rfl, hb91⟩
            replace hB := hB.acc hb91
            refine WR_val rfl (rn_pick_t rfl) ?_
            refine WR_val rfl (rn_assign) ?_
            refine WR_nil ?_
            refine thenN ?_
            refine W_ret ?_
            refine ret_ret [_] ⟨rfl, trivial⟩ ?_
            exact ⟨rfl, hB⟩

end Go.Proofs.Ytkkgahgpemepeaa

/- Logs on disks that may die: what writes leave, what a loss of power makes of them. -/
namespace Go.Proofs.Ytkkgahgpemepeaa
open Go Go.RowKit Coup

theorem step_yes {D : Dk} (h : stepOk D = true) : D.dead = false ∧ (stepD D).dead = false := by
  have hd : D.dead = false := by
    cases hx : D.dead with
    | false => rfl
    | true => rw [(stepD_dead hx).1] at h; cases h
  exact ⟨hd, by rw [stepD, if_pos h]; exact hd⟩
theorem step_no {D : Dk} (h : stepOk D = false) : (stepD D).dead = true := by rw [stepD, h]; rfl
theorem ver_V {D D' : Dk} (h : D'.V = D.V) (j : Nat) : ver D' j = ver D j := by rw [ver, ver, h]
theorem write_yes {D : Dk} (h : stepOk D = true) {i : Nat} (hi : i < D.V.length) (s : Sec) : (writeA D (i : Int) s).dead = false ∧ ∀ j, ver (writeA D (i : Int) s) j = if i = j then ver D j ++ [s] else ver D j := by
  have hin : inD D (i : Int) = true := decide_eq_true ⟨by omega, by omega⟩
  rw [writeA, hin, if_pos rfl, Int.toNat_natCast, writeD, if_pos h]
  refine ⟨(step_yes h).2, fun j => ?_⟩
  rw [ver_set (by rw [stepD_V]; exact hi), ver_V (stepD_V D)]
  by_cases e : i = j
  · subst e; rw [if_pos rfl]
  · rw [if_neg e, if_neg e]
theorem write_no {D : Dk} (h : stepOk D = false) {i : Nat} (hi : i < D.V.length) (s : Sec) : (writeA D (i : Int) s).dead = true ∧ ∀ j, ver (writeA D (i : Int) s) j = ver D j := by
  have hin : inD D (i : Int) = true := decide_eq_true ⟨by omega, by omega⟩
  rw [writeA, hin, if_pos rfl, Int.toNat_natCast, writeD, h]
  exact ⟨step_no h, fun j => ver_V (stepD_V D) j⟩
theorem writes_cases : ∀ (R : List Sec) (D : Dk) (a : Nat), D.dead = false → a + R.length ≤ D.V.length →
    ((writesW D a R).2 = true ∧ (writesW D a R).1.dead = false ∧ ∀ j, ver (writesW D a R).1 j = if a ≤ j ∧ j < a + R.length then ver D j ++ [R.getD (j - a) zeroS] else ver D j) ∨
    ((writesW D a R).2 = false ∧ (writesW D a R).1.dead = true ∧ ∀ j, ver (writesW D a R).1 j = ver D j ∨ (a ≤ j ∧ j < a + R.length ∧ ver (writesW D a R).1 j = ver D j ++ [R.getD (j - a) zeroS]))
  | [], D, a, hd, _ => .inl ⟨rfl, hd, fun j => by rw [if_neg (by rw [List.length_nil]; omega)]; rfl⟩
  | t :: R, D, a, hd, hl => by
    rw [List.length_cons] at hl
    rw [writesW]
    cases hs : stepOk D with
    | false =>
      obtain ⟨h1, h2⟩ := write_no hs (i := a) (by omega) t
      rw [if_neg (by simp)]
      exact .inr ⟨rfl, h1, fun j => .inl (h2 j)⟩
    | true =>
      obtain ⟨h1, h2⟩ := write_yes hs (i := a) (by omega) t
      rw [if_pos rfl]
      have hlen : (writeA D (a : Int) t).V.length = D.V.length := writeA_len _ _ _
      rcases writes_cases R (writeA D (a : Int) t) (a + 1) h1 (by rw [hlen]; omega) with ⟨e1, e2, e3⟩ | ⟨e1, e2, e3⟩
      · refine .inl ⟨e1, e2, fun j => ?_⟩
        rw [e3 j, h2 j, List.length_cons]
        by_cases c1 : a + 1 ≤ j ∧ j < a + 1 + R.length
        · rw [if_pos c1, if_neg (by omega : ¬ a = j), if_pos (by omega : a ≤ j ∧ j < a + (R.length + 1)), show j - a = (j - (a + 1)) + 1 by omega, List.getD_cons_succ]
        · rw [if_neg c1]
          by_cases c2 : a = j
          · rw [if_pos c2, if_pos (by omega), show j - a = 0 by omega, List.getD_cons_zero]
          · rw [if_neg c2, if_neg (by omega)]
      · refine .inr ⟨e1, e2, fun j => ?_⟩
        rw [List.length_cons]
        rcases e3 j with h3 | ⟨k1, k2, k3⟩
        · rw [h3, h2 j]
          by_cases c2 : a = j
          · rw [if_pos c2]
            exact .inr ⟨by omega, by omega, by rw [show j - a = 0 by omega, List.getD_cons_zero]⟩
          · rw [if_neg c2]; exact .inl rfl
        · rw [k3, h2 j, if_neg (by omega)]
          exact .inr ⟨by omega, by omega, by rw [show j - a = (j - (a + 1)) + 1 by omega, List.getD_cons_succ]⟩
theorem flush_yes {D : Dk} (h : stepOk D = true) : (flushD D).dead = false ∧ shortD (flushD D) 1 ∧ ∀ j, j < D.V.length → readD (flushD D) j = readD D j := by
  refine ⟨?_, ?_, fun j hj => readF h hj⟩
  · rw [flushD, if_pos h]; exact (step_yes h).2
  · rw [flushD, if_pos h]
    intro v hv
    obtain ⟨u, _, rfl⟩ := List.mem_map.1 hv
    simp
theorem flush_no {D : Dk} (h : stepOk D = false) : (flushD D).dead = true ∧ ∀ j, ver (flushD D) j = ver D j := by
  rw [flushD, h]
  exact ⟨step_no h, fun j => ver_V (stepD_V D) j⟩
theorem put_cases (R : List Sec) {D : Dk} (a : Nat) (hd : D.dead = false) (hsh : shortD D 1) (hl : a + R.length ≤ D.V.length) :
    ((putW D a R).2 = true ∧ (putW D a R).1.dead = false ∧ shortD (putW D a R).1 1 ∧ ∀ j, j < D.V.length → readD (putW D a R).1 j = if a ≤ j ∧ j < a + R.length then R.getD (j - a) zeroS else readD D j) ∨
    ((putW D a R).2 = false ∧ (putW D a R).1.dead = true ∧ ∀ j, ver (putW D a R).1 j = ver D j ∨ (a ≤ j ∧ j < a + R.length ∧ ver (putW D a R).1 j = ver D j ++ [R.getD (j - a) zeroS])) := by
  rcases writes_cases R D a hd hl with ⟨e1, e2, e3⟩ | ⟨e1, e2, e3⟩
  · rw [putW, if_pos e1]
    cases hs : stepOk (writesW D a R).1 with
    | true =>
      obtain ⟨f1, f2, f3⟩ := flush_yes hs
      refine .inl ⟨rfl, f1, f2, fun j hj => ?_⟩
      rw [f3 j (by rw [writesW_len]; exact hj), readD, e3 j]
      by_cases c : a ≤ j ∧ j < a + R.length
      · rw [if_pos c, if_pos c]; simp [lastS]
      · rw [if_neg c, if_neg c]; rfl
    | false =>
      obtain ⟨f1, f2⟩ := flush_no hs
      refine .inr ⟨rfl, f1, fun j => ?_⟩
      rw [f2 j, e3 j]
      by_cases c : a ≤ j ∧ j < a + R.length
      · rw [if_pos c]; exact .inr ⟨c.1, c.2, rfl⟩
      · rw [if_neg c]; exact .inl rfl
  · rw [putW, if_neg (by rw [e1]; simp)]
    exact .inr ⟨e1, e2, e3⟩
theorem put_len (D : Dk) (a : Nat) (R : List Sec) : (putW D a R).1.V.length = D.V.length := by
  unfold putW
  split
  · rw [flush_len, writesW_len]
  · rw [writesW_len]
theorem save_put (D : Dk) (c s : Nat) : saveD D c s = (putW D 0 [headB c s]).1 ∧ saveE D c s = (putW D 0 [headB c s]).2 := by
  cases hs : stepOk D with
  | true =>
    have : writesW D 0 [headB c s] = (writeA D 0 (headB c s), true) := by rw [writesW, if_pos hs]; rfl
    rw [putW, this, if_pos rfl, saveD, saveE, hs, if_pos rfl]
    exact ⟨rfl, Bool.true_and _⟩
  | false =>
    have : writesW D 0 [headB c s] = (writeA D 0 (headB c s), false) := by rw [writesW, hs]; rfl
    rw [putW, this, saveD, saveE, hs]
    exact ⟨rfl, rfl⟩
theorem ver_one {D : Dk} (hok : DkOk D) (hsh : shortD D 1) {j : Nat} (hj : j < D.V.length) : ver D j = [readD D j] := by
  obtain ⟨h1, _, _⟩ := ver_ok hok hj
  have h2 := hsh.ver hj
  have h3 := List.length_pos_iff.2 h1
  obtain ⟨a, ha⟩ := List.length_eq_one_iff.1 (show (ver D j).length = 1 by omega)
  rw [readD, ha]; rfl
theorem sec_halves {s : Sec} (h : s.length = 128) : s = fstH s ++ sndH s := by
  unfold fstH sndH
  rw [List.drop_zero, List.take_of_length_le (l := s.drop 64) (by rw [List.length_drop]; omega), List.take_append_drop]
/-- What is left of a disk whose sectors were written at most once since they were flushed. -/
theorem crash_two {D D2 : Dk} (hok : DkOk D) (hsh : shortD D 1) (hok2 : DkOk D2) (hlen : D2.V.length = D.V.length) (p : List Int) {j : Nat} (hj : j < D.V.length) {t : Sec} {q : Prop} (hv : ver D2 j = ver D j ∨ (q ∧ ver D2 j = ver D j ++ [t])) :
    (readD (crashD D2 p) j).length = 128 ∧ (fstH (readD (crashD D2 p) j) = fstH (readD D j) ∨ (q ∧ fstH (readD (crashD D2 p) j) = fstH t)) ∧ (sndH (readD (crashD D2 p) j) = sndH (readD D j) ∨ (q ∧ sndH (readD (crashD D2 p) j) = sndH t)) := by
  obtain ⟨s, h1, h2, a, ha, b, hb, h3, h4⟩ := crash_ver hok2 p (i := j) (by rw [hlen]; exact hj)
  have hr : readD (crashD D2 p) j = s := by rw [readD, h1]; rfl
  rw [hr]
  have hone := ver_one hok hsh hj
  refine ⟨h2, ?_, ?_⟩
  · rw [h3]
    rcases hv with e | ⟨hq, e⟩
    · rw [e, hone, List.mem_singleton] at ha; rw [ha]; exact .inl rfl
    · rw [e, hone] at ha
      rcases List.mem_append.1 ha with ha | ha
      · rw [List.mem_singleton.1 ha]; exact .inl rfl
      · rw [List.mem_singleton.1 ha]; exact .inr ⟨hq, rfl⟩
  · rw [h4]
    rcases hv with e | ⟨hq, e⟩
    · rw [e, hone, List.mem_singleton] at hb; rw [hb]; exact .inl rfl
    · rw [e, hone] at hb
      rcases List.mem_append.1 hb with hb | hb
      · rw [List.mem_singleton.1 hb]; exact .inl rfl
      · rw [List.mem_singleton.1 hb]; exact .inr ⟨hq, rfl⟩
theorem crash_short1 {D : Dk} (hok : DkOk D) (p : List Int) : shortD (crashD D p) 1 := fun v hv => by
  obtain ⟨j, hj⟩ := List.mem_iff_getElem?.1 hv
  have hjl := (List.getElem?_eq_some_iff.1 hj).1
  rw [crash_len] at hjl
  obtain ⟨s, h1, _⟩ := crash_ver hok p hjl
  have : v = ver (crashD D p) j := by
    rw [ver, List.getD_eq_getElem?_getD, hj]; rfl
  rw [this, h1]; exact Nat.le_refl _
/-! ### Halves of the log's sectors -/
theorem logB_len {D : Dk} (h : DkOk D) {n : Nat} (hn : 1 + n ≤ D.V.length) : (logB D n).length = 128 * n := by rw [logB_eq, flat_len (secL_ok h hn), secL_len, Nat.mul_comm]
theorem flat_half {L : List Sec} (h : secsOk L) {j : Nat} {s : Sec} (hs : L[j]? = some s) : halfAt L.flatten (2 * j) = fstH s ∧ halfAt L.flatten (2 * j + 1) = sndH s := by
  have hf := flat_at h hs
  have e1 : halfAt L.flatten (2 * j) = ((L.flatten.drop (j * 128)).take 128).take 64 := by rw [halfAt, List.take_take, Nat.min_eq_left (by omega), show 64 * (2 * j) = j * 128 by omega]
  have e2 : halfAt L.flatten (2 * j + 1) = ((L.flatten.drop (j * 128)).take 128).drop 64 := by rw [halfAt, List.drop_take, List.drop_drop, show 64 * (2 * j + 1) = j * 128 + 64 by omega]
  have hl := h s (List.mem_of_getElem? hs)
  rw [e1, e2, hf]
  unfold fstH sndH
  exact ⟨by rw [List.drop_zero], by rw [List.take_of_length_le (l := s.drop 64) (by rw [List.length_drop]; omega)]⟩
theorem log_half {D : Dk} (h : DkOk D) {n j : Nat} (hn : 1 + n ≤ D.V.length) (hj : j < n) : halfAt (logB D n) (2 * j) = fstH (readD D (1 + j)) ∧ halfAt (logB D n) (2 * j + 1) = sndH (readD D (1 + j)) :=
  flat_half (secL_ok h hn) (secL_get D hj)
theorem logB_cong {D D' : Dk} {n : Nat} (h : ∀ j, j < n → readD D' (1 + j) = readD D (1 + j)) : logB D' n = logB D n := by
  unfold logB
  congr 1
  exact List.map_congr_left fun i hi => h i (List.mem_range.1 hi)
/-- A settled disk with a log on it. -/
structure LogOn (D : Dk) (n c cx s : Nat) (T : List (Nat × Rec)) : Prop where
  ok : DkOk D
  len : 1 + n ≤ D.V.length
  short : shortD D 1
  head : readD D 0 = headB c s
  inv : Inv n c cx s T (logB D n)
theorem head_len (c s : Nat) : (headB c s).length = 128 := headB_len c s
theorem head_snd (c s : Nat) : sndH (headB c s) = zerosB 64 := by
  have hl : (magic ++ (beB 8 c ++ beB 8 s)).length = 20 := by simp [magic, beB_length]
  have he : headB c s = (magic ++ (beB 8 c ++ beB 8 s)) ++ zerosB 108 := by simp [headB, List.append_assoc]
  rw [sndH, he, List.drop_append, List.drop_of_length_le (l := magic ++ (beB 8 c ++ beB 8 s)) (by omega), List.nil_append, hl, zeros_drop, zeros_take]; rfl
namespace LogOn
variable {D D' : Dk} {n c cx s : Nat} {T : List (Nat × Rec)}
/-- The same is read: the same log. -/
theorem same (h : LogOn D n c cx s T) (hok : DkOk D') (hlen : D'.V.length = D.V.length) (hsh : shortD D' 1) (hr : ∀ j, j < D.V.length → readD D' j = readD D j) : LogOn D' n c cx s T := by
  have hl := h.len
  exact ⟨hok, by rw [hlen]; exact hl, hsh, (hr 0 (by omega)).trans h.head, by rw [logB_cong fun j hj => hr (1 + j) (by omega)]; exact h.inv⟩
theorem crash (h : LogOn D n c cx s T) (p : List Int) (hok : DkOk (crashD D p)) : LogOn (crashD D p) n c cx s T :=
  h.same hok (crash_len D p) (crash_short1 h.ok p) fun j hj => crash_read p (by
    unfold openB
    have := h.short.ver hj
    exact decide_eq_false (by omega))
/-- Another head. -/
theorem rehead {c' cx' s' : Nat} {T' : List (Nat × Rec)} (h : LogOn D n c cx s T) (hok : DkOk D') (hlen : D'.V.length = D.V.length) (hsh : shortD D' 1) (h0 : readD D' 0 = headB c' s') (hr : ∀ j, j < D.V.length → j ≠ 0 → readD D' j = readD D j)
    (hi : Inv n c cx s T (logB D n) → Inv n c' cx' s' T' (logB D n)) : LogOn D' n c' cx' s' T' := by
  have hl := h.len
  exact ⟨hok, by rw [hlen]; exact hl, hsh, h0, by rw [logB_cong fun j hj => hr (1 + j) (by omega) (by omega)]; exact hi h.inv⟩
/-- A head saved, or half saved. -/
theorem save {c' cx' s' : Nat} {T' : List (Nat × Rec)} (h : LogOn D n c cx s T) (hd : D.dead = false) (hok : DkOk (saveD D c' s')) (hok2 : ∀ p, DkOk (crashD (saveD D c' s') p)) (hi : Inv n c cx s T (logB D n) → Inv n c' cx' s' T' (logB D n)) :
    (saveE D c' s' = true ∧ (saveD D c' s').dead = false ∧ LogOn (saveD D c' s') n c' cx' s' T') ∨
    (saveE D c' s' = false ∧ (saveD D c' s').dead = true ∧ ∀ p, LogOn (crashD (saveD D c' s') p) n c cx s T ∨ LogOn (crashD (saveD D c' s') p) n c' cx' s' T') := by
  have hl := h.len
  obtain ⟨e1, e2⟩ := save_put D c' s'
  have hlen : (saveD D c' s').V.length = D.V.length := by rw [e1, put_len]
  rcases put_cases [headB c' s'] 0 hd h.short (by simp; omega) with ⟨f1, f2, f3, f4⟩ | ⟨f1, f2, f3⟩
  · left
    rw [← e1] at f2 f3 f4
    rw [← e2] at f1
    refine ⟨f1, f2, h.rehead hok hlen f3 ?_ (fun j hj h0 => ?_) hi⟩
    · rw [f4 0 (by omega), if_pos (by simp)]; rfl
    · rw [f4 j hj, if_neg (by simp; omega)]
  · right
    rw [← e1] at f2 f3
    rw [← e2] at f1
    refine ⟨f1, f2, fun p => ?_⟩
    have hj : ∀ j, j < D.V.length → j ≠ 0 → readD (crashD (saveD D c' s') p) j = readD D j := fun j hj h0 => by
      obtain ⟨g1, g2, g3⟩ := crash_two (q := False) (t := zeroS) h.ok h.short hok hlen p hj (by
        rcases f3 j with e | ⟨_, k2, _⟩
        · exact .inl e
        · simp at k2; omega)
      rw [sec_halves g1, sec_halves (readD_len h.ok hj)]
      rcases g2 with g2 | ⟨g2, _⟩
      · rcases g3 with g3 | ⟨g3, _⟩
        · rw [g2, g3]
        · exact g3.elim
      · exact g2.elim
    obtain ⟨g1, g2, g3⟩ := crash_two (q := True) (t := headB c' s') h.ok h.short hok hlen p (j := 0) (by omega) (by
      rcases f3 0 with e | ⟨_, _, k3⟩
      · exact .inl e
      · exact .inr ⟨trivial, k3⟩)
    rw [h.head, head_snd, head_snd] at g3
    rw [h.head] at g2
    have g3' : sndH (readD (crashD (saveD D c' s') p) 0) = zerosB 64 := g3.elim id fun x => x.2
    have hlc : (crashD (saveD D c' s') p).V.length = D.V.length := by rw [crash_len]; exact hlen
    rcases g2 with g2 | ⟨_, g2⟩
    · left
      refine h.same (hok2 p) hlc (crash_short1 hok p) fun j hjl => ?_
      by_cases h0 : j = 0
      · rw [h0, h.head, sec_halves g1, sec_halves (head_len c s), g2, g3', head_snd]
      · exact hj j hjl h0
    · right
      exact h.rehead (hok2 p) hlc (crash_short1 hok p) (by rw [sec_halves g1, sec_halves (head_len c' s'), g2, g3', head_snd]) hj hi
end LogOn
end Go.Proofs.Ytkkgahgpemepeaa

/- A record written on a disk that may die. -/
namespace Go.Proofs.Ytkkgahgpemepeaa
open Go Go.RowKit Coup

theorem LogOn.put {D : Dk} {n c s : Nat} {T : List (Nat × Rec)} {G : Lg} {r : Rec} (h : LogOn D n c c s T) (hd : D.dead = false) (hG : G.count = c ∧ G.num = T.length ∧ G.at_ = atT T) (hc : c ≤ 4611686018427387904) (hn : n ≤ 4000) (hr : chsOk r) (hm : mayR r = true)
    (hfit : atT T + needN (516 * r.length) ≤ n) (hok : DkOk (putW D (1 + G.at_) (rowW G r)).1) (hok2 : ∀ p, DkOk (crashD (putW D (1 + G.at_) (rowW G r)).1 p)) :
    ((putW D (1 + G.at_) (rowW G r)).2 = true ∧ (putW D (1 + G.at_) (rowW G r)).1.dead = false ∧ LogOn (putW D (1 + G.at_) (rowW G r)).1 n c c s (T ++ [(c, r)])) ∨
    ((putW D (1 + G.at_) (rowW G r)).2 = false ∧ (putW D (1 + G.at_) (rowW G r)).1.dead = true ∧ ∀ p, LogOn (crashD (putW D (1 + G.at_) (rowW G r)).1 p) n c (c + 1) s T ∨ LogOn (crashD (putW D (1 + G.at_) (rowW G r)).1 p) n c (c + 1) s (T ++ [(c, r)])) := by
  have hl := h.len
  have hRl := rowW_len G r
  obtain ⟨hRf, hRo⟩ := rowW_flat G hr
  rw [hG.1, hG.2.1] at hRf
  rw [hG.2.2] at hok hok2 ⊢
  generalize rowW G r = R at *
  obtain ⟨P, X, hB, hP, hat, h3, h4⟩ := h.inv.ex
  have hPl := tellP_len h.inv.ok hP
  have hBl := h.inv.len
  have hXl : X.length = 128 * (n - atT T) := by
    rw [hB, List.length_append, hPl] at hBl; omega
  have hi := h.inv
  rw [hB] at hi
  have hlen := put_len D (1 + atT T) R
  rcases put_cases R (1 + atT T) hd h.short (by omega) with ⟨f1, f2, f3, f4⟩ | ⟨f1, f2, f3⟩
  · left
    refine ⟨f1, f2, hok, by rw [hlen]; exact hl, f3, ?_, ?_⟩
    · rw [f4 0 (by omega), if_neg (by omega)]; exact h.head
    · rw [logB_put h.ok hl (by omega) f4 hB hPl, hRf, hRl]
      exact inv_done hi hP hXl h3 hc hn hr hm hfit
  · right
    refine ⟨f1, f2, fun p => ?_⟩
    have hlc : (crashD (putW D (1 + atT T) R).1 p).V.length = D.V.length := by rw [crash_len]; exact hlen
    -- the sectors
    have hsec : ∀ j, j < D.V.length → (readD (crashD (putW D (1 + atT T) R).1 p) j).length = 128 ∧ (fstH (readD (crashD (putW D (1 + atT T) R).1 p) j) = fstH (readD D j) ∨ ((1 + atT T ≤ j ∧ j < 1 + atT T + R.length) ∧ fstH (readD (crashD (putW D (1 + atT T) R).1 p) j) = fstH (R.getD (j - (1 + atT T)) zeroS))) ∧
        (sndH (readD (crashD (putW D (1 + atT T) R).1 p) j) = sndH (readD D j) ∨ ((1 + atT T ≤ j ∧ j < 1 + atT T + R.length) ∧ sndH (readD (crashD (putW D (1 + atT T) R).1 p) j) = sndH (R.getD (j - (1 + atT T)) zeroS))) := fun j hj =>
      crash_two h.ok h.short hok hlen p hj (by
        rcases f3 j with e | ⟨k1, k2, k3⟩
        · exact .inl e
        · exact .inr ⟨⟨k1, k2⟩, k3⟩)
    have hok3 := hok2 p
    have hsh3 := crash_short1 hok p
    generalize crashD (putW D (1 + atT T) R).1 p = D3 at *
    have hl3 : 1 + n ≤ D3.V.length := by rw [hlc]; exact hl
    have hh0 : readD D3 0 = headB c s := by
      obtain ⟨g1, g2, g3⟩ := hsec 0 (by omega)
      have g2' := g2.elim id fun x => absurd x.1 (by omega)
      have g3' := g3.elim id fun x => absurd x.1 (by omega)
      rw [← h.head, sec_halves g1, sec_halves (readD_len h.ok (i := 0) (by omega)), g2', g3']
    have hB3l := logB_len hok3 hl3
    -- halves
    have hhalf : ∀ i, i < 2 * n → halfAt (logB D3 n) i = halfAt (logB D n) i ∨ ((2 * atT T ≤ i ∧ i < 2 * atT T + 2 * R.length) ∧ halfAt (logB D3 n) i = halfAt (rowB c T.length (recB r)) (i - 2 * atT T)) := fun i hi2 => by
      obtain ⟨j, hj | hj⟩ : ∃ j, i = 2 * j ∨ i = 2 * j + 1 := ⟨i / 2, by omega⟩
      · subst hj
        obtain ⟨a1, _⟩ := log_half hok3 hl3 (n := n) (j := j) (by omega)
        obtain ⟨b1, _⟩ := log_half h.ok hl (n := n) (j := j) (by omega)
        obtain ⟨_, g2, _⟩ := hsec (1 + j) (by omega)
        rw [a1, b1]
        rcases g2 with g2 | ⟨k, g2⟩
        · exact .inl g2
        · obtain ⟨q, rfl⟩ : ∃ q, j = atT T + q := ⟨j - atT T, by omega⟩
          refine .inr ⟨by omega, ?_⟩
          rw [g2, show 1 + (atT T + q) - (1 + atT T) = q by omega, show 2 * (atT T + q) - 2 * atT T = 2 * q by omega, ← hRf]
          exact (flat_half hRo (j := q) (s := R.getD q zeroS) (by rw [List.getD_eq_getElem?_getD, List.getElem?_eq_getElem (by omega)]; rfl)).1.symm
      · subst hj
        obtain ⟨_, a1⟩ := log_half hok3 hl3 (n := n) (j := j) (by omega)
        obtain ⟨_, b1⟩ := log_half h.ok hl (n := n) (j := j) (by omega)
        obtain ⟨_, _, g2⟩ := hsec (1 + j) (by omega)
        rw [a1, b1]
        rcases g2 with g2 | ⟨k, g2⟩
        · exact .inl g2
        · obtain ⟨q, rfl⟩ : ∃ q, j = atT T + q := ⟨j - atT T, by omega⟩
          refine .inr ⟨by omega, ?_⟩
          rw [g2, show 1 + (atT T + q) - (1 + atT T) = q by omega, show 2 * (atT T + q) + 1 - 2 * atT T = 2 * q + 1 by omega, ← hRf]
          exact (flat_half hRo (j := q) (s := R.getD q zeroS) (by rw [List.getD_eq_getElem?_getD, List.getElem?_eq_getElem (by omega)]; rfl)).2.symm
    have hPe : (logB D3 n).take (64 * (2 * atT T)) = P := halves_ext (2 * atT T) (by rw [List.length_take, hB3l]; omega) (by omega) fun i hi2 => by
      rw [half_take hi2]
      rcases hhalf i (by omega) with e | ⟨k, _⟩
      · rw [e, hB, half_app (by omega)]
      · omega
    have hX : logB D3 n = P ++ (logB D3 n).drop (64 * (2 * atT T)) := by
      have := List.take_append_drop (64 * (2 * atT T)) (logB D3 n)
      rw [hPe] at this; exact this.symm
    have hmx := inv_mix (X' := (logB D3 n).drop (64 * (2 * atT T))) hi hP hXl hat h3 h4 hc hn hr hm hfit (by rw [List.length_drop, hB3l, hXl]; omega) fun i hi2 => by
      rw [half_drop]
      rcases hhalf (2 * atT T + i) (by omega) with e | ⟨k, e⟩
      · left
        rw [e, hB, half_app2 (by omega)]
      · right
        exact ⟨by omega, by rw [e, show 2 * atT T + i - 2 * atT T = i by omega]⟩
    rw [← hX] at hmx
    exact hmx.elim (fun hv => .inl ⟨hok3, hl3, hsh3, hh0, hv⟩) fun hv => .inr ⟨hok3, hl3, hsh3, hh0, hv⟩
end Go.Proofs.Ytkkgahgpemepeaa

/- Steps and lives that came in; are there few. -/
namespace Go.Proofs.Ytkkgahgpemepeaa
open Go Go.RowKit Coup Go.ChangeShapes Go.WideShapes Go.Deep

structure StepT where
  kind : Int
  n : Int
  lv : List LeafT
  picks : List Int
def StQ (W : World) (a : StepT) (cs : List Value) : Prop := ∃ q cp q2 cp2, cs = [.int .i64 a.kind, .int .i64 a.n, .slice q a.lv.length cp, .slice q2 a.picks.length cp2] ∧ ElsAt (LfQ W) W 2 q a.lv.length a.lv ∧ SlAt W q2 a.picks.length 1 (iv a.picks) ∧ okI a.picks ∧ wf64 a.kind ∧ wf64 a.n
theorem stQ_opn {H : Type} {enc : TypeId × Value → H} {W : World} {base : Nat} {spare : Nat → Bool} {held : Bool} : Opn enc Try.prog W base spare held 117 (StQ W) := fun fuel cs x h => by
  obtain ⟨hl, m, hf⟩ := opn_flds Try.underlying117 h
  have hl2 : cs.length = 4 := hl.trans (by kernel_rfl)
  obtain ⟨_, h0⟩ := fld hf 0 0 1 rfl rfl (by kernel_rfl)
  obtain ⟨_, h1⟩ := fld hf 1 1 1 rfl rfl (by kernel_rfl)
  obtain ⟨_, h2⟩ := fld hf 2 2 1 rfl rfl (by kernel_rfl)
  obtain ⟨_, h3⟩ := fld hf 3 3 1 rfl rfl (by kernel_rfl)
  obtain ⟨a, e0, w0⟩ := opn_int (by kernel_rfl) _ _ _ h0
  obtain ⟨b, e1, w1⟩ := opn_int (by kernel_rfl) _ _ _ h1
  obtain ⟨L, q, cp, e2, hcp, hL⟩ := opn_slice (e := 66) (n := 2) (by kernel_rfl) (by kernel_rfl) lfQ_opn _ _ _ h2
  obtain ⟨R, q2, cp2, e3, hcp2, hR⟩ := opn_slice (e := 3) (n := 1) (by kernel_rfl) (by kernel_rfl) (opn_int (k := .i64) (by kernel_rfl)) _ _ _ h3
  obtain ⟨hR1, hR2⟩ := el_ints hR
  refine ⟨⟨a, b, L, R⟩, q, cp, q2, cp2, ?_, hL, hR1, hR2, i64_of_wf w0, i64_of_wf w1⟩
  have k0 := cut_at cs 0 1
  have k1 := cut_at cs 1 1
  have k2 := cut_at cs 2 1
  have k3 := cut_at cs 3 1
  rw [e0] at k0
  rw [e1] at k1
  rw [e2] at k2
  rw [e3, List.drop_of_length_le (l := cs) (i := 3 + 1) (by omega), List.append_nil] at k3
  rw [k3] at k2
  rw [k2] at k1
  rw [k1] at k0
  rw [List.drop_zero] at k0
  exact k0
structure LifeT where
  fuse : Int
  steps : List StepT
  picks : List Int
def LiQ (W : World) (a : LifeT) (cs : List Value) : Prop := ∃ q cp q2 cp2, cs = [.int .i64 a.fuse, .slice q a.steps.length cp, .slice q2 a.picks.length cp2] ∧ ElsAt (StQ W) W 4 q a.steps.length a.steps ∧ SlAt W q2 a.picks.length 1 (iv a.picks) ∧ okI a.picks ∧ wf64 a.fuse
theorem liQ_opn {H : Type} {enc : TypeId × Value → H} {W : World} {base : Nat} {spare : Nat → Bool} {held : Bool} : Opn enc Try.prog W base spare held 79 (LiQ W) := fun fuel cs x h => by
  obtain ⟨hl, m, hf⟩ := opn_flds Try.underlying79 h
  have hl2 : cs.length = 3 := hl.trans (by kernel_rfl)
  obtain ⟨_, h0⟩ := fld hf 0 0 1 rfl rfl (by kernel_rfl)
  obtain ⟨_, h1⟩ := fld hf 1 1 1 rfl rfl (by kernel_rfl)
  obtain ⟨_, h2⟩ := fld hf 2 2 1 rfl rfl (by kernel_rfl)
  obtain ⟨a, e0, w0⟩ := opn_int (by kernel_rfl) _ _ _ h0
  obtain ⟨L, q, cp, e1, hcp, hL⟩ := opn_slice (e := 117) (n := 4) (by kernel_rfl) (by kernel_rfl) stQ_opn _ _ _ h1
  obtain ⟨R, q2, cp2, e2, hcp2, hR⟩ := opn_slice (e := 3) (n := 1) (by kernel_rfl) (by kernel_rfl) (opn_int (k := .i64) (by kernel_rfl)) _ _ _ h2
  obtain ⟨hR1, hR2⟩ := el_ints hR
  refine ⟨⟨a, L, R⟩, q, cp, q2, cp2, ?_, hL, hR1, hR2, i64_of_wf w0⟩
  have k0 := cut_at cs 0 1
  have k1 := cut_at cs 1 1
  have k2 := cut_at cs 2 1
  rw [e0] at k0
  rw [e1] at k1
  rw [e2, List.drop_of_length_le (l := cs) (i := 2 + 1) (by omega), List.append_nil] at k2
  rw [k2] at k1
  rw [k1] at k0
  rw [List.drop_zero] at k0
  exact k0
theorem openRowsS {H : Type} {enc : TypeId × Value → H} {W : World} {a : Option Addr} {len cap : Nat} {d : DataW H} {p : List MemPlace} (h : DataW.Trod enc Try.prog W 0 (fun _ => true) true 77 (.slice a len cap) d p) : (∃ R, ElsAt (StQ W) W 4 a len R) ∧ len ≤ cap :=
  opn_arg (by kernel_rfl) (by kernel_rfl) stQ_opn h
theorem openRowsL {H : Type} {enc : TypeId × Value → H} {W : World} {a : Option Addr} {len cap : Nat} {d : DataW H} {p : List MemPlace} (h : DataW.Trod enc Try.prog W 0 (fun _ => true) true 75 (.slice a len cap) d p) : (∃ R, ElsAt (LiQ W) W 3 a len R) ∧ len ≤ cap :=
  opn_arg (by kernel_rfl) (by kernel_rfl) liQ_opn h
theorem StQ.below {w w' : World} {a : StepT} {cs : List Value} (h : StQ w a cs) (hb : Below w.heap.size w w') : StQ w' a cs := by
  obtain ⟨q, cp, q2, cp2, h1, h2, h3, h4⟩ := h
  exact ⟨q, cp, q2, cp2, h1, h2.to hb fun _ _ hq => hq.below hb, h3.below hb (Nat.le_refl _), h4⟩
theorem stsBelow {w w' : World} {p : Option Addr} {n : Nat} {R : List StepT} (h : ElsAt (StQ w) w 4 p n R) (hb : Below w.heap.size w w') : ElsAt (StQ w') w' 4 p n R := h.to hb fun _ _ hq => hq.below hb
def fewS (R : List StepT) (most : Nat) : Prop := R.length ≤ most ∧ ∀ a ∈ R, a.lv.length ≤ 62 ∧ a.picks.length ≤ 200
set_option maxRecDepth 20000 in
theorem few34 (p : Option Addr) (n cp most : Nat) (R : List StepT) (w : World) (h : ElsAt (StQ w) w 4 p n R) (hm : most ≤ 1000) :
    Calls Try.prog 34 [.slice p n cp, .int .i64 (most : Int)].toArray w (Ret fun v w' => ∃ B : Bool, v = .bool B ∧ (B = true → fewS R most) ∧ w = w') := by
  have hmax := h.max
  have hml : maxLen = 9223372036854775807 := by decide
  have hRl := h.1
  refine calls_W (fn := Try.f34) (rs := [.tmp 4]) (n := 59) Try.func34 rfl rfl Try.ntmps34 (by kernel_rfl) rfl ?_
  refine W_seq ?_
  refine W_region ?_
  refine WR_val rfl (rn_assign) ?_
  refine WR_nil ?_
  refine thenN ?_
  refine W_seq ?_
  refine W_seq ?_
  refine W_region ?_
  refine WR_val rfl (rn_assign) ?_
  refine WR_nil ?_
  refine thenN ?_
  refine W_block ?_
  refine W_loop (α := Nat) 0 (fun i => [(5, .int .i64 (i : Nat)), (0, .slice p n cp), (1, .int .i64 (most : Int))]) (fun i w' => i ≤ n ∧ (∀ (j : Nat) (a : StepT), j < i → R[j]? = some a → a.lv.length ≤ 62 ∧ a.picks.length ≤ 200) ∧ w = w') (fun i => n - i)
    ⟨rfl, rfl, rfl, rfl⟩ ⟨Nat.zero_le _, (by intro j x hj; exact absurd hj (Nat.not_lt_zero _)), rfl⟩ ?_
  rintro i f wr ⟨hi, hall, rfl⟩
  refine W_seq ?_
  refine W_seq ?_
  refine W_region ?_
  refine WR_val rfl (rn_move) ?_
  refine WR_val rfl (rn_move) ?_
  refine WR_val rfl (rn_lenSl (e := 117) (sz := 4) (by kernel_rfl) rfl rfl) ?_
  refine WR_val rfl (rn_lss rfl rfl) ?_
  refine WR_val rfl (rn_move) ?_
  refine WR_part 11 rfl (fun hlt => ?_) (fun hlt => ?_)
  ·
    refine WR_yes rfl ?_
    refine WR_val rfl (rn_move) ?_
    refine WR_yes rfl ?_
    refine WR_val rfl (rn_move) ?_
    refine WR_yes rfl ?_
    refine WR_val rfl (rn_leq rfl rfl) ?_
    refine WR_val rfl (rn_pick_t rfl) ?_
    refine WR_nil ?_
    refine thenN ?_
    refine W_ifp rfl (fun hle => ?_) (fun hle => ?_)
    ·
      refine W_skip ?_
      refine thenN ?_
      refine W_seq ?_
      refine W_block ?_
      refine W_seq ?_
      refine W_seq ?_
      have hobt := h.get (i := i) (by omega)
      obtain ⟨a, hx⟩ := hobt
      have hobt := h.some (by omega)
      obtain ⟨gp, op, rfl, _⟩ := hobt
      have hle := h.el hx
      obtain ⟨cs, ⟨q, c1, q2, c2, rfl, hq1, hq2, _⟩, hcl, hce⟩ := hle
      have hqm := hq1.max
      refine W_region ?_
      refine WR_val rfl (rn_move) ?_
      refine WR_val rfl (rn_move) ?_
      refine WR_val rfl (rn_indexSl (e := 117) (sz := 4) (by kernel_rfl) rfl rfl (i) (by omega) (by omega)) ?_
      refine WR_val rfl (rn_fieldAddr (off := 2) (by kernel_rfl) rfl) ?_
      refine WR_val rfl (rn_load rfl (Ld.one (by kernel_rfl) (hce 2 _ rfl))) ?_
      refine WR_val rfl (rn_lenSl (e := 66) (sz := 2) (by kernel_rfl) rfl rfl) ?_
      refine WR_val rfl (rn_gtr rfl rfl) ?_
      refine WR_val rfl (rn_move) ?_
      refine WR_part 25 rfl (fun h62 => ?_) (fun h62 => ?_)
      ·
        refine WR_no rfl rfl ?_
        refine WR_no rfl rfl ?_
        refine WR_no rfl rfl ?_
        refine WR_no rfl rfl ?_
        refine WR_no rfl rfl ?_
        refine WR_no rfl rfl ?_
        refine WR_no rfl rfl ?_
        refine WR_val rfl (rn_pick_t rfl) ?_
        refine WR_nil ?_
        refine thenN ?_
        refine W_tb rfl (rfl) ?_
        refine W_seq ?_
        refine W_region ?_
        refine WR_val rfl (rn_assign) ?_
        refine WR_nil ?_
        refine thenN ?_
        refine W_ret ?_
        refine thenR ?_
        refine blockR ?_
        refine thenR ?_
        refine loopR ?_
        refine blockR ?_
        refine thenR ?_
        refine ret_ret [_] ⟨rfl, trivial⟩ ?_
        exact ⟨false, rfl, by simp, rfl⟩
      ·
        refine WR_yes rfl ?_
        refine WR_val rfl (rn_move) ?_
        refine WR_yes rfl ?_
        refine WR_val rfl (rn_move) ?_
        refine WR_yes rfl ?_
        refine WR_val rfl (rn_indexSl (e := 117) (sz := 4) (by kernel_rfl) rfl rfl (i) (by omega) (by omega)) ?_
        refine WR_yes rfl ?_
        refine WR_val rfl (rn_fieldAddr (off := 3) (by kernel_rfl) rfl) ?_
        refine WR_yes rfl ?_
        refine WR_val rfl (rn_load rfl (Ld.one (by kernel_rfl) (hce 3 _ rfl))) ?_
        refine WR_yes rfl ?_
        refine WR_val rfl (rn_lenSl (e := 3) (sz := 1) (by kernel_rfl) rfl rfl) ?_
        refine WR_yes rfl ?_
        refine WR_val rfl (rn_gtr rfl rfl) ?_
        refine WR_val rfl (rn_pick_f rfl) ?_
        refine WR_nil ?_
        refine thenN ?_
        refine W_ifp rfl (fun h200 => ?_) (fun h200 => ?_)
        ·
          refine W_seq ?_
          refine W_region ?_
          refine WR_val rfl (rn_assign) ?_
          refine WR_nil ?_
          refine thenN ?_
          refine W_ret ?_
          refine thenR ?_
          refine blockR ?_
          refine thenR ?_
          refine loopR ?_
          refine blockR ?_
          refine thenR ?_
          refine ret_ret [_] ⟨rfl, trivial⟩ ?_
          exact ⟨false, rfl, by simp, rfl⟩
        ·
          refine W_skip ?_
          refine thenN ?_
          refine W_seq ?_
          refine W_region ?_
          refine WR_val rfl (rn_assign) ?_
          refine WR_nil ?_
          refine thenN ?_
          refine W_block ?_
          refine W_loop (α := Nat) 0 (fun k => [(6, .int .i64 (k : Nat)), (5, .int .i64 (i : Nat)), (0, .slice (some ⟨gp, op, none⟩) n cp), (1, .int .i64 (most : Int))]) (fun k w' => k ≤ a.lv.length ∧ w = w') (fun k => a.lv.length - k)
            ⟨rfl, rfl, rfl, rfl, rfl⟩ ⟨Nat.zero_le _, rfl⟩ ?_
          rintro k f wr ⟨hk, rfl⟩
          refine W_seq ?_
          refine W_seq ?_
          refine W_region ?_
          refine WR_val rfl (rn_move) ?_
          refine WR_val rfl (rn_move) ?_
          refine WR_val rfl (rn_move) ?_
          refine WR_val rfl (rn_indexSl (e := 117) (sz := 4) (by kernel_rfl) rfl rfl (i) (by omega) (by omega)) ?_
          refine WR_val rfl (rn_fieldAddr (off := 2) (by kernel_rfl) rfl) ?_
          refine WR_val rfl (rn_load rfl (Ld.one (by kernel_rfl) (hce 2 _ rfl))) ?_
          refine WR_val rfl (rn_lenSl (e := 66) (sz := 2) (by kernel_rfl) rfl rfl) ?_
          refine WR_val rfl (rn_lss rfl rfl) ?_
          refine WR_nil ?_
          refine thenN ?_
          refine W_ifp rfl (fun hlk => ?_) (fun hlk => ?_)
          ·
            refine W_skip ?_
            refine thenN ?_
            refine W_seq ?_
            refine W_block ?_
            refine W_seq ?_
            have hobt := hq1.get (i := k) (by omega)
            obtain ⟨b, hy⟩ := hobt
            have hobt := hq1.some (by omega)
            obtain ⟨gq, oq, rfl, _⟩ := hobt
            have hle2 := hq1.el hy
            obtain ⟨cs2, ⟨q3, c3, rfl, _⟩, hcl2, hce2⟩ := hle2
            refine W_region ?_
            refine WR_val rfl (rn_move) ?_
            refine WR_val rfl (rn_move) ?_
            refine WR_val rfl (rn_indexSl (e := 117) (sz := 4) (by kernel_rfl) rfl rfl (i) (by omega) (by omega)) ?_
            refine WR_val rfl (rn_fieldAddr (off := 2) (by kernel_rfl) rfl) ?_
            refine WR_val rfl (rn_load rfl (Ld.one (by kernel_rfl) (hce 2 _ rfl))) ?_
            refine WR_val rfl (rn_move) ?_
            refine WR_val rfl (rn_indexSl (e := 66) (sz := 2) (by kernel_rfl) rfl rfl (k) (by omega) (by omega)) ?_
            refine WR_val rfl (rn_fieldAddr (off := 1) (by kernel_rfl) rfl) ?_
            refine WR_val rfl (rn_load rfl (Ld.one (by kernel_rfl) (hce2 1 _ rfl))) ?_
            refine WR_val rfl (rn_lenSl (e := 5) (sz := 1) (by kernel_rfl) rfl rfl) ?_
            refine WR_val rfl (rn_gtr rfl rfl) ?_
            refine WR_nil ?_
            refine thenN ?_
            refine W_ifp rfl (fun h600 => ?_) (fun h600 => ?_)
            ·
              refine W_seq ?_
              refine W_region ?_
              refine WR_val rfl (rn_assign) ?_
              refine WR_nil ?_
              refine thenN ?_
              refine W_ret ?_
              refine blockR ?_
              refine thenR ?_
              refine loopR ?_
              refine blockR ?_
              refine blockR ?_
              refine thenR ?_
              refine loopR ?_
              refine blockR ?_
              refine thenR ?_
              refine ret_ret [_] ⟨rfl, trivial⟩ ?_
              exact ⟨false, rfl, by simp, rfl⟩
            ·
              refine W_skip ?_
              refine blockN ?_
              refine thenN ?_
              refine W_region ?_
              refine WR_val rfl (rn_move) ?_
              refine WR_val rfl (rn_add rfl rfl (Coup.w64 (by omega))) ?_
              refine WR_val rfl (rn_assign) ?_
              refine WR_nil ?_
              refine loopN ⟨k + 1, by omega, ⟨by go_num, rfl, rfl, rfl, rfl⟩, by omega, rfl⟩
          ·
            refine W_exit ?_
            refine thenX ?_
            refine loopX ?_
            refine blockX ?_
            refine blockN ?_
            refine thenN ?_
            refine W_region ?_
            refine WR_val rfl (rn_move) ?_
            refine WR_val rfl (rn_add rfl rfl (Coup.w64 (by omega))) ?_
            refine WR_val rfl (rn_assign) ?_
            refine WR_nil ?_
            refine loopN ⟨i + 1, by omega, ⟨by go_num, rfl, rfl, rfl⟩, by omega, (fun j x hj hx2 => ?_), rfl⟩
            by_cases hji : j = i
            · rw [hji, hx] at hx2; cases hx2; exact ⟨by omega, by omega⟩
            · exact hall j x (by omega) hx2
    ·
      refine W_exit ?_
      refine thenX ?_
      refine loopX ?_
      refine blockX ?_
      refine thenN ?_
      refine W_seq ?_
      refine W_region ?_
      refine WR_val rfl (rn_move) ?_
      refine WR_val rfl (rn_lenSl (e := 117) (sz := 4) (by kernel_rfl) rfl rfl) ?_
      refine WR_val rfl (rn_move) ?_
      refine WR_val rfl (rn_leq rfl rfl) ?_
      refine WR_val rfl (rn_assign) ?_
      refine WR_nil ?_
      refine thenN ?_
      refine W_ret ?_
      refine ret_ret [_] ⟨rfl, trivial⟩ ?_
      exact ⟨_, rfl, fun h => absurd (of_decide_eq_true h) (by omega), rfl⟩
  ·
    refine WR_no rfl rfl ?_
    refine WR_no rfl rfl ?_
    refine WR_no rfl rfl ?_
    refine WR_val rfl (rn_pick_f rfl) ?_
    refine WR_nil ?_
    refine thenN ?_
    refine W_f rfl ?_
    refine W_exit ?_
    refine thenX ?_
    refine loopX ?_
    refine blockX ?_
    refine thenN ?_
    refine W_seq ?_
    refine W_region ?_
    refine WR_val rfl (rn_move) ?_
    refine WR_val rfl (rn_lenSl (e := 117) (sz := 4) (by kernel_rfl) rfl rfl) ?_
    refine WR_val rfl (rn_move) ?_
    refine WR_val rfl (rn_leq rfl rfl) ?_
    refine WR_val rfl (rn_assign) ?_
    refine WR_nil ?_
    refine thenN ?_
    refine W_ret ?_
    refine ret_ret [_] ⟨rfl, trivial⟩ ?_
    have hin : i = n := by omega
    subst hin
    exact ⟨_, rfl, fun h => ⟨by have := of_decide_eq_true h; omega, fun a ha => by
      have hobt := List.mem_iff_getElem?.1 ha
      obtain ⟨j, hj⟩ := hobt
      exact hall j a (by have := (List.getElem?_eq_some_iff.1 hj).1; omega) hj⟩, rfl⟩
end Go.Proofs.Ytkkgahgpemepeaa

/- Lists of records in memory that no write on a disk touches; what a loss of power may leave. -/
namespace Go.Proofs.Ytkkgahgpemepeaa
open Go Go.RowKit Coup

/-- A slice whose block lies below lo, or in L. -/
def Shel (lo : Nat) (L : List Nat) (n : Nat) (q : Option Addr) : Prop := 0 < n → ∀ b o, q = some ⟨b, o, none⟩ → b < lo ∨ b ∈ L
theorem Shel.weak {lo n : Nat} {L L2 : List Nat} {q : Option Addr} (h : Shel lo L n q) (h2 : ∀ b ∈ L, b ∈ L2) : Shel lo L2 n q := fun h0 b o e => (h h0 b o e).imp id (h2 b)
theorem Shel.kp {lo m n sz : Nat} {L M : List Nat} {q : Option Addr} {cs : List Value} {w w' : World} (h : Shel lo L n q) (hs : SlAt w q n sz cs) (k : Kp M w w') (hM : ∀ b ∈ M, ¬ (b < lo ∨ b ∈ L)) : SlAt w' q n sz cs :=
  sl_kp0 hs k fun h0 b o e hm => hM b hm (h h0 b o e)
structure RecL (lo : Nat) (L : List Nat) (w : World) (q : Option Addr) (r : Rec) : Prop where
  at_ : SlAt w q r.length 513 (chsV r)
  sh : Shel lo L r.length q
structure AllL (lo : Nat) (L : List Nat) (w : World) (p : Option Addr) (S : List Rec) : Prop where
  ex : ∃ vs, SlAt w p S.length 1 vs ∧ Shel lo L S.length p ∧ ∀ (i : Nat) r, S[i]? = some r → ∃ q c, vs[i]? = some (.slice q r.length c) ∧ RecL lo L w q r
structure AllM (lo : Nat) (L : List Nat) (w : World) (p : Option Addr) (ML : List (List Rec)) : Prop where
  ex : ∃ vs, SlAt w p ML.length 1 vs ∧ Shel lo L ML.length p ∧ ∀ (i : Nat) S, ML[i]? = some S → ∃ q c, vs[i]? = some (.slice q S.length c) ∧ AllL lo L w q S
section
variable {lo : Nat} {L L2 M : List Nat} {w w' : World} {p q : Option Addr} {r : Rec} {S : List Rec} {ML : List (List Rec)}
theorem RecL.kpd (h : RecL lo L w q r) (k : Kp M w w') (hM : ∀ b ∈ M, ¬ (b < lo ∨ b ∈ L)) : RecL lo L w' q r := ⟨Shel.kp (m := 0) h.sh h.at_ k hM, h.sh⟩
theorem AllL.kpd (h : AllL lo L w p S) (k : Kp M w w') (hM : ∀ b ∈ M, ¬ (b < lo ∨ b ∈ L)) : AllL lo L w' p S :=
  let ⟨vs, h1, h2, h3⟩ := h.ex; ⟨vs, Shel.kp (m := 0) h2 h1 k hM, h2, fun i r hr => let ⟨q, c, e, h4⟩ := h3 i r hr; ⟨q, c, e, h4.kpd k hM⟩⟩
theorem AllM.kpd (h : AllM lo L w p ML) (k : Kp M w w') (hM : ∀ b ∈ M, ¬ (b < lo ∨ b ∈ L)) : AllM lo L w' p ML :=
  let ⟨vs, h1, h2, h3⟩ := h.ex; ⟨vs, Shel.kp (m := 0) h2 h1 k hM, h2, fun i r hr => let ⟨q, c, e, h4⟩ := h3 i r hr; ⟨q, c, e, h4.kpd k hM⟩⟩
theorem RecL.new (h : RecL lo L w q r) (hb : Below w.heap.size w w') : RecL lo L w' q r := h.kpd (M := []) (Kp.of_below hb) (by simp)
theorem AllL.new (h : AllL lo L w p S) (hb : Below w.heap.size w w') : AllL lo L w' p S := h.kpd (M := []) (Kp.of_below hb) (by simp)
theorem AllM.new (h : AllM lo L w p ML) (hb : Below w.heap.size w w') : AllM lo L w' p ML := h.kpd (M := []) (Kp.of_below hb) (by simp)
theorem outL_no {n : Nat} (h2 : ∀ b ∈ L, b ∈ L2) : ∀ b ∈ outL lo L2 n, ¬ (b < lo ∨ b ∈ L) := fun b hb hx => notLL (hx.imp id (h2 b)) hb
theorem RecL.ll (h : RecL lo L w q r) (k : LoL lo L2 w w') (h2 : ∀ b ∈ L, b ∈ L2) : RecL lo L w' q r := h.kpd k.kp (outL_no h2)
theorem AllL.ll (h : AllL lo L w p S) (k : LoL lo L2 w w') (h2 : ∀ b ∈ L, b ∈ L2) : AllL lo L w' p S := h.kpd k.kp (outL_no h2)
theorem AllM.ll (h : AllM lo L w p ML) (k : LoL lo L2 w w') (h2 : ∀ b ∈ L, b ∈ L2) : AllM lo L w' p ML := h.kpd k.kp (outL_no h2)
theorem RecL.weak (h : RecL lo L w q r) (h2 : ∀ b ∈ L, b ∈ L2) : RecL lo L2 w q r := ⟨h.at_, h.sh.weak h2⟩
theorem AllL.weak (h : AllL lo L w p S) (h2 : ∀ b ∈ L, b ∈ L2) : AllL lo L2 w p S :=
  let ⟨vs, h1, h4, h3⟩ := h.ex; ⟨vs, h1, h4.weak h2, fun i r hr => let ⟨q, c, e, h5⟩ := h3 i r hr; ⟨q, c, e, h5.weak h2⟩⟩
theorem AllM.weak (h : AllM lo L w p ML) (h2 : ∀ b ∈ L, b ∈ L2) : AllM lo L2 w p ML :=
  let ⟨vs, h1, h4, h3⟩ := h.ex; ⟨vs, h1, h4.weak h2, fun i r hr => let ⟨q, c, e, h5⟩ := h3 i r hr; ⟨q, c, e, h5.weak h2⟩⟩
theorem AllL.toR (h : AllL lo L w p S) : AllR w p S := let ⟨vs, h1, _, h3⟩ := h.ex; ⟨vs, h1, fun i r hr => let ⟨q, c, e, h5⟩ := h3 i r hr; ⟨q, c, e, h5.at_⟩⟩
theorem AllL.nil (lo : Nat) (L : List Nat) (w : World) : AllL lo L w none [] := ⟨[], ⟨rfl, by decide, fun h0 => absurd h0 (by decide)⟩, fun h0 => absurd h0 (by decide), fun i r hr => by simp at hr⟩
theorem AllZ.l {C : List Nat} (h : AllZ p S w C) (hC : ∀ b ∈ C, b ∈ L) : AllL lo L w p S := by
  obtain ⟨_, vs, h2, h3, h4⟩ := h
  refine ⟨vs, h2, fun h0 b o e => .inr (hC b (h3 h0 b o e)), fun i r hr => ?_⟩
  obtain ⟨b, off, c, e1, e2, e3⟩ := h4 i r hr
  exact ⟨_, c, e1, e2, fun _ b' o' e => by cases e; exact .inr (hC _ e3)⟩
theorem own_shel {base e sz m c : Nat} {xs : List Value} (h : ownsAt w base e sz (.slice q m c) m xs) : Shel lo ((Value.slice q m c).ownBlock.toList ++ L) m q := fun _ b o e => by
  subst e
  exact .inr (List.mem_append_left _ (by simp [Value.ownBlock]))
theorem AllL.one {i : Nat} (vs : List Value) (h3 : ∀ (i : Nat) r, S[i]? = some r → ∃ q c, vs[i]? = some (.slice q r.length c) ∧ RecL lo L w q r) (hl : vs.length = S.length) : ∀ v ∈ vs, v.oneCell' = true := fun v hv => by
  obtain ⟨j, hj⟩ := List.mem_iff_getElem?.1 hv
  have hlt := (List.getElem?_eq_some_iff.1 hj).1
  obtain ⟨q, c, e, _⟩ := h3 j _ (List.getElem?_eq_getElem (by omega : j < S.length))
  rw [hj] at e
  cases e; rfl
theorem AllL.snoc {vs : List Value} {c : Nat} (hs : SlAt w p (S ++ [r]).length 1 (vs ++ [.slice q r.length c])) (hp : Shel lo L (S ++ [r]).length p) (hl : vs.length = S.length)
    (h3 : ∀ (i : Nat) r, S[i]? = some r → ∃ q c, vs[i]? = some (.slice q r.length c) ∧ RecL lo L w q r) (hr : RecL lo L w q r) : AllL lo L w p (S ++ [r]) := by
  refine ⟨_, hs, hp, fun i x hx => ?_⟩
  by_cases hi : i < S.length
  · rw [List.getElem?_append_left hi] at hx
    obtain ⟨q', c', e, h4⟩ := h3 i x hx
    exact ⟨q', c', by rw [List.getElem?_append_left (by omega)]; exact e, h4⟩
  · have hi' : i = S.length := by
      have := (List.getElem?_eq_some_iff.1 hx).1
      simp at this; omega
    subst hi'
    simp at hx
    subst hx
    exact ⟨q, c, by rw [← hl]; simp, hr⟩
theorem two_out {X Z : World → List Nat → Prop} [hZ : Thing Z] (h : Two X (AndZ None Z) lo L w) : ∃ C, Z w C ∧ Two X None lo (C ++ L) w ∧ ∀ b ∈ C, b ∉ L := by
  obtain ⟨⟨B, E, h1, ⟨C1, C2, rfl, h2, hz⟩, h3, h4⟩, h5, h6⟩ := h
  refine ⟨C2, hz, ⟨⟨B, [], h1, rfl, fun b hb => ⟨(h3 b hb).1, by simp, fun hm => ?_⟩, fun b hb => nomatch hb⟩, h5, fun b hb => ?_⟩, fun b hb => (h4 b (List.mem_append_right _ hb)).2⟩
  · rcases List.mem_append.1 hm with hm | hm
    · exact (h3 b hb).2.1 (List.mem_append_right _ hm)
    · exact (h3 b hb).2.2 hm
  · rcases List.mem_append.1 hb with hb | hb
    · exact hZ.lt hz b hb
    · exact h6 b hb
theorem lg_out {Z : World → List Nat → Prop} [hZ : Thing Z] {g x : Nat} {D : Dk} {G : Lg} (h : LgAt g x (AndZ None Z) lo L D G w) : ∃ C, Z w C ∧ LgAt g x None lo (C ++ L) D G w := by
  obtain ⟨C, h1, h2, h3⟩ := two_out h.two
  refine ⟨C, h1, h2.weak fun b hb => ?_, h.rowx, h.ge, fun hm => ?_⟩
  · rcases List.mem_cons.1 hb with rfl | hb
    · exact List.mem_append_right _ (List.mem_cons_self ..)
    · rcases List.mem_append.1 hb with hb | hb
      · exact List.mem_append_left _ hb
      · exact List.mem_append_right _ (List.mem_cons_of_mem _ hb)
  · rcases List.mem_append.1 hm with hm | hm
    · exact h3 x hm (List.mem_cons_self ..)
    · exact h.ni hm
theorem LgAt.newv {g x base e sz m : Nat} {D : Dk} {G : Lg} {v : Value} {xs : List Value} (h : LgAt g x None lo L D G w) (hb : Below w.heap.size w w') (ho : ownsAt w' base e sz v m xs) (hbase : w.heap.size ≤ base) : LgAt g x None lo (v.ownBlock.toList ++ L) D G w' := by
  cases hv : v.ownBlock with
  | none => exact h.new hb
  | some b =>
    have := ho.lt b hv
    exact h.newc hb (Nat.le_trans hbase this.1) this.2
theorem Two.newv {g base e sz m : Nat} {D : Dk} {v : Value} {xs : List Value} (h : Two (DZ g D) None lo L w) (hb : Below w.heap.size w w') (ho : ownsAt w' base e sz v m xs) (hbase : w.heap.size ≤ base) : Two (DZ g D) None lo (v.ownBlock.toList ++ L) w' := by
  cases hv : v.ownBlock with
  | none => exact h.new hb
  | some b =>
    have := ho.lt b hv
    exact h.newc hb (Nat.le_trans hbase this.1) this.2
end
/-! ### What a loss of power may leave -/
theorem crash_ok {D : Dk} (h : DkOk D) (p : List Int) : DkOk (crashD D p) := by
  have hv : ∀ v ∈ (crashD D p).V, ∃ s : Sec, v = [s] ∧ s.length = 128 := fun v hv => by
    obtain ⟨j, hj⟩ := List.mem_iff_getElem?.1 hv
    have hjl := (List.getElem?_eq_some_iff.1 hj).1
    rw [crash_len] at hjl
    obtain ⟨s, h1, h2, _⟩ := crash_ver h p hjl
    have : v = ver (crashD D p) j := by
      rw [ver, List.getD_eq_getElem?_getD, hj]; rfl
    exact ⟨s, this.trans h1, h2⟩
  refine ⟨by rw [crash_len]; exact h.n, fun v h1 => ?_, fun v h1 => ?_, fun v h1 => ?_⟩
  · obtain ⟨s, rfl, _⟩ := hv v h1; simp
  · obtain ⟨s, rfl, h2⟩ := hv v h1
    intro t ht
    rw [List.mem_singleton.1 ht]; exact h2
  · obtain ⟨s, rfl, _⟩ := hv v h1; simp
def CrashOk (D : Dk) (n cb : Nat) (ML : List (List Rec)) : Prop := ∀ p, ∃ c s T, c ≤ cb ∧ LogOn (crashD D p) n c (c + 1) s T ∧ T.map (·.2) ∈ ML
theorem LogOn.up {D : Dk} {n c cx s c' cx' : Nat} {T : List (Nat × Rec)} (h : LogOn D n c cx s T) (hx : cx ≤ cx') : LogOn D n c cx' s T := ⟨h.ok, h.len, h.short, h.head, h.inv.up (Nat.le_refl _) hx⟩
theorem LogOn.rest {D : Dk} {n c cx s : Nat} {T : List (Nat × Rec)} (h : LogOn D n c cx s T) (hx : cx ≤ c + 1) : CrashOk D n c [T.map (·.2)] := fun p =>
  ⟨c, s, T, Nat.le_refl _, (h.crash p (crash_ok h.ok p)).up (c' := c) hx, by simp⟩
def gOf (n c s : Nat) (T : List (Nat × Rec)) (d : Bool) : Lg := ⟨c, s, n, T.length, atT T, d⟩
theorem LogOn.lg {D : Dk} {n c cx s : Nat} {T : List (Nat × Rec)} (h : LogOn D n c cx s T) (hc : c ≤ 4611686018427387904) (h4 : 4 ≤ n) (hn : n ≤ 4000) (d : Bool) : LgOk D (gOf n c s T d) := by
  obtain ⟨P, X, _, _, hat, _⟩ := h.inv.ex
  exact ⟨h.inv.s1, h.inv.sc, hc, h4, hn, hat, atT_len h.inv.ok, h.len⟩
theorem save_short {D : Dk} {k : Nat} (h : shortD D k) (c s : Nat) : shortD (saveD D c s) (k + 1) := by
  have h1 : shortD (writeA D 0 (headB c s)) (k + 1) := writeA_short h _ _
  unfold saveD
  split
  · unfold flushD
    split
    · intro v hv
      obtain ⟨u, _, rfl⟩ := List.mem_map.1 hv
      simp
    · intro v hv
      rw [stepD_V] at hv
      exact h1 v hv
  · exact h1
theorem save_lenD (D : Dk) (c s : Nat) : (saveD D c s).V.length = D.V.length := by rw [(save_put D c s).1, put_len]
theorem put_short {D : Dk} {k : Nat} (h : shortD D k) (a : Nat) (R : List Sec) : shortD (putW D a R).1 (k + R.length + 1) := by
  have h1 : shortD (writesW D a R).1 (k + R.length) := writesW_short R D a k h
  unfold putW
  split
  · show shortD (flushD _) _
    unfold flushD
    split
    · intro v hv
      obtain ⟨u, _, rfl⟩ := List.mem_map.1 hv
      simp
    · intro v hv
      rw [stepD_V] at hv
      exact short_of h1 (by omega) v hv
  · exact short_of h1 (by omega)
/-- What a commit does to a log, and to what a loss of power may leave. -/
theorem commit_cases {D : Dk} {n c s : Nat} {T : List (Nat × Rec)} {r : Rec} (h : LogOn D n c c s T) (hd : D.dead = false) (hc : c ≤ 4611686018427387904) (hn : n ≤ 4000) (hr : chsOk r) :
    ∃ (e : Int) (D' : Dk) (G' : Lg), commitR D (gOf n c s T false) r = (e, D', G') ∧ D'.V.length = D.V.length ∧ shortD D' 1000 ∧ (DkOk D' →
      ((e ≠ 10 ∧ e ≠ 0 ∧ D' = D ∧ G' = gOf n c s T false) ∨ (e = 0 ∧ G' = gOf n c s (T ++ [(c, r)]) false ∧ D'.dead = false ∧ LogOn D' n c c s (T ++ [(c, r)])) ∨ (e = 10 ∧ G'.dead = true ∧ D'.dead = true ∧ CrashOk D' n c [T.map (·.2), T.map (·.2) ++ [r]]))) := by
  have hsh := h.short
  by_cases hm : mayR r = false
  · exact ⟨2, D, gOf n c s T false, by rw [commitR, if_neg (by simp [gOf]), if_pos hm], rfl, short_of hsh (by omega), fun _ => .inl ⟨by decide, by decide, rfl, rfl⟩⟩
  · have hmt : mayR r = true := by
      cases hx : mayR r with
      | true => rfl
      | false => exact absurd hx hm
    by_cases hfit : (gOf n c s T false).size < (gOf n c s T false).at_ + (rowW (gOf n c s T false) r).length
    · exact ⟨8, D, gOf n c s T false, by rw [commitR, if_neg (by simp [gOf]), if_neg hm, if_pos hfit], rfl, short_of hsh (by omega), fun _ => .inl ⟨by decide, by decide, rfl, rfl⟩⟩
    · have hfit2 : ¬ n < atT T + (rowW (gOf n c s T false) r).length := hfit
      have hl := rowW_len (gOf n c s T false) r
      have hr60 := of_decide_eq_true (Bool.and_eq_true_iff.1 hmt).1
      have hN : needN (516 * r.length) ≤ 340 := by unfold needN manyN; omega
      have hsp := put_short hsh (1 + atT T) (rowW (gOf n c s T false) r)
      have hlen := put_len D (1 + atT T) (rowW (gOf n c s T false) r)
      have hcm : commitR D (gOf n c s T false) r = if (putW D (1 + atT T) (rowW (gOf n c s T false) r)).2 then (0, (putW D (1 + atT T) (rowW (gOf n c s T false) r)).1, gOf n c s (T ++ [(c, r)]) false) else (10, (putW D (1 + atT T) (rowW (gOf n c s T false) r)).1, gOf n c s T true) := by
        have hat : atT (T ++ [(c, r)]) = atT T + (rowW (gOf n c s T false) r).length := by rw [hl]; simp [atT, atS]
        rw [commitR, if_neg (by simp [gOf]), if_neg hm, if_neg hfit, gOf, gOf, List.length_append, List.length_singleton, hat]
        rfl
      have hput := fun hok => h.put (G := gOf n c s T false) (r := r) hd ⟨rfl, rfl, rfl⟩ hc hn hr hmt (by rw [hl] at hfit2; omega) hok fun p => crash_ok hok p
      rw [hcm]
      cases hp : (putW D (1 + atT T) (rowW (gOf n c s T false) r)).2 with
      | true =>
        refine ⟨_, _, _, by rw [if_pos rfl], hlen, short_of hsp (by rw [hl]; omega), fun hok => .inr (.inl ?_)⟩
        rcases hput hok with ⟨_, h2, h3⟩ | ⟨h1, _⟩
        · exact ⟨rfl, rfl, h2, h3⟩
        · rw [show (gOf n c s T false).at_ = atT T from rfl, hp] at h1; cases h1
      | false =>
        refine ⟨_, _, _, by rw [if_neg (by simp)], hlen, short_of hsp (by rw [hl]; omega), fun hok => .inr (.inr ?_)⟩
        rcases hput hok with ⟨h1, _⟩ | ⟨_, h2, h3⟩
        · rw [show (gOf n c s T false).at_ = atT T from rfl, hp] at h1; cases h1
        · refine ⟨rfl, rfl, h2, fun p => ?_⟩
          rcases h3 p with h4 | h4
          · exact ⟨c, s, T, Nat.le_refl _, h4, by simp⟩
          · exact ⟨c, s, T ++ [(c, r)], Nat.le_refl _, h4, by simp⟩
/-- A truncation. -/
theorem trunc_cases {D : Dk} {n c s : Nat} {T : List (Nat × Rec)} (h : LogOn D n c c s T) (hd : D.dead = false) (hok : DkOk (saveD D (c + 1) (c + 1))) :
    (saveE D (c + 1) (c + 1) = true ∧ (saveD D (c + 1) (c + 1)).dead = false ∧ LogOn (saveD D (c + 1) (c + 1)) n (c + 1) (c + 1) (c + 1) []) ∨
    (saveE D (c + 1) (c + 1) = false ∧ (saveD D (c + 1) (c + 1)).dead = true ∧ CrashOk (saveD D (c + 1) (c + 1)) n (c + 1) [T.map (·.2), []]) := by
  rcases h.save (c' := c + 1) (cx' := c + 1) (s' := c + 1) (T' := []) hd hok (fun p => crash_ok hok p) (fun hi => hi.trunc) with ⟨a, b, d⟩ | ⟨a, b, d⟩
  · exact .inl ⟨a, b, d⟩
  · refine .inr ⟨a, b, fun p => ?_⟩
    rcases d p with h4 | h4
    · exact ⟨c, s, T, by omega, h4.up (c' := c) (by omega), by simp⟩
    · exact ⟨c + 1, c + 1, [], Nat.le_refl _, h4.up (c' := c) (by omega), by simp⟩
/-- Opened. -/
theorem open_cases {D : Dk} {n c s : Nat} {T : List (Nat × Rec)} (h : LogOn D n c (c + 1) s T) (hd : D.dead = false) (hok : DkOk (saveD D (c + 1) s)) :
    (saveE D (c + 1) s = true ∧ (saveD D (c + 1) s).dead = false ∧ LogOn (saveD D (c + 1) s) n (c + 1) (c + 1) s T) ∨
    (saveE D (c + 1) s = false ∧ (saveD D (c + 1) s).dead = true ∧ CrashOk (saveD D (c + 1) s) n (c + 1) [T.map (·.2)]) := by
  rcases h.save (c' := c + 1) (cx' := c + 1) (s' := s) (T' := T) hd hok (fun p => crash_ok hok p) (fun hi => hi.up (Nat.le_succ _) (Nat.le_refl _)) with ⟨a, b, d⟩ | ⟨a, b, d⟩
  · exact .inl ⟨a, b, d⟩
  · refine .inr ⟨a, b, fun p => ?_⟩
    rcases d p with h4 | h4
    · exact ⟨c, s, T, by omega, h4, by simp⟩
    · exact ⟨c + 1, s, T, Nat.le_refl _, h4.up (c' := c) (by omega), by simp⟩
theorem LogOn.opens {D : Dk} {n c s : Nat} {T : List (Nat × Rec)} (h : LogOn D n c (c + 1) s T) (hc : c < 4611686018427387904) (h4 : 4 ≤ n) (hn : n ≤ 4000) :
    openE D n = 0 ∧ hdC (readD D 0) = c ∧ hdS (readD D 0) = s ∧ recsOf D (headG D n) = T.map (·.2) := by
  have hl := h.len
  obtain ⟨e1, e2, e3⟩ := open_head (n := (n : Int)) (decide_eq_true (by omega) : fitsN D.V.length n = true) h.head h.inv.s1 h.inv.sc hc
  refine ⟨e1, e2, e3, ?_⟩
  rw [recsOf, headG, e2, e3]
  show recsL s c 0 (rowsL (n : Int).toNat (logB D (n : Int).toNat) (n : Int).toNat) = _
  rw [Int.toNat_natCast]
  exact h.inv.recs (by omega) hn
end Go.Proofs.Ytkkgahgpemepeaa

/- A log's life: walked. -/
namespace Go.Proofs.Ytkkgahgpemepeaa
open Go Go.RowKit Coup
/-- What a life leaves: the disk, and what it may have. -/
structure LifeOut (g lo n cb m : Nat) (w : World) (v : Value) (w' : World) : Prop where
  ex : ∃ pm ML cm D' L', v = .tuple #[.slice pm ML.length cm, .bool true] ∧ Two (DZ g D') None lo L' w' ∧ AllM lo L' w' pm ML ∧ ML.length ≤ 2 ∧ CrashOk D' n cb ML ∧ shortD D' 1000 ∧ D'.V.length = m ∧ ∀ S ∈ ML, allOk S
  ll : LoL lo [] w w'
theorem okT_all {s c : Nat} {T : List (Nat × Rec)} (h : okT s c T) : allOk (T.map (·.2)) := fun r hr => by
  obtain ⟨y, hy, rfl⟩ := List.mem_map.1 hr
  obtain ⟨_, _, a3, a4⟩ := h y hy
  have := of_decide_eq_true (Bool.and_eq_true_iff.1 a4).1
  exact ⟨a3, by omega⟩
theorem all_one {S : List Rec} (h : allOk S) : ∀ S' ∈ [S], allOk S' := fun S' h' => by rw [List.mem_singleton.1 h']; exact h
theorem all_two {S S2 : List Rec} (h : allOk S) (h2 : allOk S2) : ∀ S' ∈ [S, S2], allOk S' := fun S' h' => by
  rcases List.mem_cons.1 h' with rfl | h'
  · exact h
  · rw [List.mem_singleton.1 h']; exact h2
theorem all_snoc {S : List Rec} {r : Rec} (h : allOk S) (h1 : chsOk r) (h2 : r.length ≤ 1000000) : allOk (S ++ [r]) := fun x hx => by
  rcases List.mem_append.1 hx with hx | hx
  · exact h x hx
  · rw [List.mem_singleton.1 hx]; exact ⟨h1, h2⟩
theorem two_lists {lo : Nat} {L : List Nat} {w : World} {g : Nat} {t : Nat} {p1 p2 : Option Addr} {c1 c2 : Nat} {S1 S2 : List Rec} (hr : row w g [.slice p1 S1.length c1, .slice p2 S2.length c2] t) (h1 : AllL lo L w p1 S1) (h2 : AllL lo L w p2 S2) (hg : g ∈ L) : AllM lo L w (some ⟨g, 0, none⟩) [S1, S2] :=
  ⟨⟨_, hr.slA (m := 2) (sz := 1) rfl (by decide), fun _ b o e => by cases e; exact .inr hg, fun i S hS => by
    match i, hS with
    | 0, hS => cases hS; exact ⟨p1, c1, rfl, h1⟩
    | 1, hS => cases hS; exact ⟨p2, c2, rfl, h2⟩⟩⟩
theorem one_list {lo : Nat} {L : List Nat} {w : World} {g : Nat} {t : Nat} {p1 : Option Addr} {c1 : Nat} {S1 : List Rec} (hr : row w g [.slice p1 S1.length c1] t) (h1 : AllL lo L w p1 S1) (hg : g ∈ L) : AllM lo L w (some ⟨g, 0, none⟩) [S1] :=
  ⟨⟨_, hr.slA (m := 1) (sz := 1) rfl (by decide), fun _ b o e => by cases e; exact .inr hg, fun i S hS => by
    match i, hS with
    | 0, hS => cases hS; exact ⟨p1, c1, rfl, h1⟩⟩⟩
theorem CrashOk.up {D : Dk} {n cb cb' : Nat} {ML : List (List Rec)} (h : CrashOk D n cb ML) (hc : cb ≤ cb') : CrashOk D n cb' ML := fun p => let ⟨c, s, T, e, h2⟩ := h p; ⟨c, s, T, Nat.le_trans e hc, h2⟩
theorem trunc2 {g x lo : Nat} {L : List Nat} {D : Dk} {w : World} {n c s : Nat} {T : List (Nat × Rec)} (h : LgAt g x None lo L D (gOf n c s T false) w) (hon : LogOn D n c c s T) (hd : D.dead = false) (hc : c < 4611686018427387904) :
    Calls Try.prog 18 [.pointer (some ⟨x, 0, none⟩)].toArray w (Ret fun v w' => ∃ (e : Int) (D' : Dk) (G' : Lg), v = .int .i64 e ∧ LoL lo L w w' ∧ LgAt g x None lo L D' G' w' ∧ D'.V.length = D.V.length ∧ shortD D' 1000 ∧
      ((e = 0 ∧ G' = gOf n (c + 1) (c + 1) [] false ∧ D'.dead = false ∧ LogOn D' n (c + 1) (c + 1) (c + 1) []) ∨ (e = 10 ∧ G'.dead = true ∧ D'.dead = true ∧ CrashOk D' n (c + 1) [T.map (·.2), []]))) := by
  refine (trunc18 h (by show c ≤ _; omega) (short_of hon.short (by omega))).to ?_
  rintro v w' ⟨e, hv, hLL, hh⟩
  have hl := save_lenD D (c + 1) (c + 1)
  have hs := short_of (save_short hon.short (c + 1) (c + 1)) (k' := 1000) (by omega)
  rcases hh with ⟨h, _⟩ | ⟨_, h, _⟩ | ⟨_, _, h1, rfl, hG⟩ | ⟨_, _, h1, rfl, hG⟩
  · cases h
  · rw [show (gOf n c s T false).count = c from rfl] at h; omega
  · rcases trunc_cases hon hd (tOk hG.two).1 with ⟨e, _⟩ | ⟨_, e2, e3⟩
    · rw [show (gOf n c s T false).count = c from rfl, e] at h1; cases h1
    · exact ⟨10, _, _, hv, hLL, hG, hl, hs, .inr ⟨rfl, rfl, e2, e3⟩⟩
  · rcases trunc_cases hon hd (tOk hG.two).1 with ⟨_, e2, e3⟩ | ⟨e, _⟩
    · exact ⟨0, _, _, hv, hLL, hG, hl, hs, .inl ⟨rfl, rfl, e2, e3⟩⟩
    · rw [show (gOf n c s T false).count = c from rfl, e] at h1; cases h1
set_option maxRecDepth 20000 in
set_option maxHeartbeats 4000000 in
theorem live36 {g : Nat} {L : List Nat} {D : Dk} {w w0 : World} {n c s : Nat} {T : List (Nat × Rec)} (h : Two (DZ g D) None w0.heap.size L w) (hon : LogOn D n c (c + 1) s T) (hd : D.dead = false) (h4 : 4 ≤ n) (hn : n ≤ 4000) (hcb : c + 100 ≤ 4611686018427387904)
    (p : Option Addr) (m cp : Nat) (R : List StepT) (hR : ElsAt (StQ w0) w0 4 p m R) (hB0 : Below w0.heap.size w0 w) (hfew : fewS R 12) (q : Option Addr) (cq : Nat) (S : List Rec) (hS : AllL w0.heap.size L w q S) (hTS : T.map (·.2) = S) :
    Calls Try.prog 36 [.pointer (some ⟨g, 0, none⟩), .int .i64 (n : Int), .slice p m cp, .slice q S.length cq].toArray w (Ret fun v w' => LifeOut g w0.heap.size n (c + 20) D.V.length w v w') := by
  obtain ⟨lo, hlo⟩ : ∃ lo, w0.heap.size = lo := ⟨_, rfl⟩
  have hml : maxLen = 9223372036854775807 := by decide
  have hm12 := hfew.1
  have hRl := hR.1
  rw [hlo] at h hS ⊢
  have hLL := LoL.refl lo [] w
  obtain ⟨o1, o2, o3, o4⟩ := hon.opens (by omega) h4 hn
  have hop := openYes h n o1 (short_of hon.short (by omega))
  rw [o2, o3, o4, hTS] at hop
  have hsv := fun hok => open_cases hon hd hok
  have hsl := save_lenD D (c + 1) s
  have hssh := save_short hon.short (c + 1) s
  have hatn : atT T ≤ n := let ⟨_, _, _, _, e, _⟩ := hon.inv.ex; e
  have hTl := atT_len hon.inv.ok
  have hSl : S.length = T.length := by rw [← hTS, List.length_map]
  have hao := okT_all hon.inv.ok
  rw [hTS] at hao
  have hop2 : Calls Try.prog 24 [.pointer (some ⟨g, 0, none⟩), .int .i64 (n : Int)].toArray w (Ret fun v w' => ∃ D2 vx pa k ca e, v = .tuple #[vx, .slice pa k ca, .int .i64 e] ∧ LoL lo L w w' ∧ D2.V.length = D.V.length ∧ shortD D2 1000 ∧
      ((e = 10 ∧ D2.dead = true ∧ CrashOk D2 n (c + 1) [S] ∧ Two (DZ g D2) None lo L w') ∨ (e = 0 ∧ k = S.length ∧ ∃ x L2, vx = .pointer (some ⟨x, 0, none⟩) ∧ (∀ b ∈ L, b ∈ L2) ∧ AllL lo L2 w' pa S ∧ D2.dead = false ∧ LogOn D2 n (c + 1) (c + 1) s T ∧ LgAt g x None lo L2 D2 (gOf n (c + 1) s T false) w'))) := by
    refine hop.to ?_
    rintro v w' ⟨ok, D2, C, s', S', hok, hD2, rfl, rfl, rfl, hLL, hh⟩
    rw [hD2] at hsl hssh hsv
    rcases hh with ⟨rfl, rfl, h2⟩ | ⟨rfl, x, pa, ca, rfl, _, hG⟩
    · rcases hsv (tOk h2).1 with ⟨e, _⟩ | ⟨_, e2, e3⟩
      · rw [hok] at e; cases e
      · rw [hTS] at e3; exact ⟨D2, _, _, _, _, _, rfl, hLL, hsl, short_of hssh (by omega), .inl ⟨rfl, e2, e3, h2⟩⟩
    · rcases hsv (tOk hG.two).1 with ⟨_, e2, e3⟩ | ⟨e, _⟩
      · obtain ⟨C, hz, hG2⟩ := lg_out hG
        refine ⟨D2, _, _, _, _, _, rfl, hLL, hsl, short_of hssh (by omega), .inr ⟨rfl, rfl, x, C ++ L, rfl, fun b hb => List.mem_append_right _ hb, hz.l fun b hb => List.mem_append_left _ hb, e2, e3, ?_⟩⟩
        have hat : atS S = atT T := by rw [← hTS]; rfl
        rw [hat, hSl] at hG2
        exact hG2
      · rw [hok] at e; cases e
  clear hop hsv hsl hssh
  refine calls_W (fn := Try.f36) (rs := [.tmp 8, .tmp 9]) (n := 86) Try.func36 rfl rfl Try.ntmps36 (by kernel_rfl) rfl ?_
  refine W_seq ?_
  refine W_region ?_
  refine WR_val rfl (rn_assign) ?_
  refine WR_val rfl (rn_assign) ?_
  refine WR_nil ?_
  refine thenN ?_
  refine W_seq ?_
  refine W_region ?_
  refine WR_val rfl (rn_move) ?_
  refine WR_val rfl (rn_move) ?_
  refine WR_ent rfl (rn_call (by kernel_rfl) rfl) (hop2) ?_
  rintro _ w20 ⟨D2, vx, pa, ka, ca, e, rfl, hb20, hDl, hDs, hcase⟩
  replace hS := hS.ll hb20 (fun b hb => hb)
  replace hLL := hLL.ll hb20 (by first | (intro b hb; exact hb) | (intro b hb; simp [hb]; done) | simp)
  refine WR_val rfl (rn_move) ?_
  refine WR_val rfl (rn_extract rfl rfl) ?_
  refine WR_val rfl (rn_extract rfl rfl) ?_
  refine WR_val rfl (rn_extract rfl rfl) ?_
  refine WR_val rfl (rn_assign) ?_
  refine WR_val rfl (rn_assign) ?_
  refine WR_val rfl (rn_assign) ?_
  refine WR_nil ?_
  refine thenN ?_
  refine W_seq ?_
  refine W_seq ?_
  refine W_region ?_
  refine WR_val rfl (rn_move) ?_
  refine WR_val rfl (rn_neq rfl rfl) ?_
  refine WR_nil ?_
  refine thenN ?_
  refine W_ifp rfl (fun hne => ?_) (fun hne => ?_)
  ·
    refine W_seq ?_
    have hc10 : e = 10 ∧ D2.dead = true ∧ CrashOk D2 n (c + 1) [S] ∧ Two (DZ g D2) None lo L w20 := hcase.elim (fun h => ⟨h.1, h.2.1, h.2.2.1, h.2.2.2⟩) fun h => absurd h.1 hne
    obtain ⟨he, hdead, hcr, hD⟩ := hc10
    subst he
    refine W_region ?_
    refine WR_val rfl (rn_move) ?_
    refine WR_mk rfl (mk_one (e := 51) (.slice q S.length cq) ([.slice q S.length cq]) ([Value.slice none 0 0]) 1 (by kernel_rfl) (by kernel_rfl) rfl rfl rfl ⟨by decide, by decide⟩ (fun g27 w27 hg27 hr27 hb27 => ?_))
    replace hLL := hLL.new hb27
    replace hD := hD.newc hb27 hg27 hr27.lt
    replace hS := hS.new hb27
    refine WR_val rfl (rn_move) ?_
    refine WR_val rfl (rn_eql rfl rfl) ?_
    refine WR_val rfl (rn_move) ?_
    refine WR_tp 30 rfl (rfl) ?_
    refine WR_yes rfl ?_
    refine WR_val rfl (rn_move) ?_
    refine WR_yes rfl ?_
    refine WR_ent rfl (rn_call (by kernel_rfl) rfl) (tDead hD) ?_
    rintro _ _ ⟨rfl, rfl⟩
    refine WR_val rfl (rn_pick_t rfl) ?_
    refine WR_val rfl (rn_assign) ?_
    refine WR_val rfl (rn_assign) ?_
    refine WR_nil ?_
    refine thenN ?_
    refine W_ret ?_
    refine thenR ?_
    refine ret_ret [_, _] ⟨rfl, rfl, trivial⟩ ?_
    exact ⟨⟨some ⟨g27, 0, none⟩, [S], 1, D2, g27 :: L, by rw [hdead]; rfl, hD, one_list hr27 (hS.weak fun b hb => List.mem_cons_of_mem _ hb) (List.mem_cons_self ..), by simp, fun p => let ⟨c', s', T', e1, e2⟩ := hcr p; ⟨c', s', T', by omega, e2⟩, hDs, hDl, all_one hao⟩, hLL⟩
  ·
    have hobt : e = 0 ∧ ka = S.length ∧ ∃ x L2, vx = .pointer (some ⟨x, 0, none⟩) ∧ (∀ b ∈ L, b ∈ L2) ∧ AllL lo L2 w20 pa S ∧ D2.dead = false ∧ LogOn D2 n (c + 1) (c + 1) s T ∧ LgAt g x None lo L2 D2 (gOf n (c + 1) s T false) w20 := hcase.elim (fun h => absurd h.1 (fun e => hne (by rw [e]; decide))) id
    obtain ⟨he, hk, x, L2, rfl, hsub, hAa, hd2, hon2, hG⟩ := hobt
    subst he hk
    replace hS := hS.weak hsub
    refine W_skip ?_
    refine thenN ?_
    refine W_seq ?_
    refine W_seq ?_
    refine W_region ?_
    refine WR_val rfl (rn_move) ?_
    refine WR_val rfl (rn_move) ?_
    refine WR_ent rfl (rn_call (by kernel_rfl) rfl) (sameAll37 S S hao hao pa q S.length S.length ca cq w20 hAa.toR rfl hS.toR rfl (by omega)) ?_
    rintro _ w36 ⟨⟨bb, rfl, hbb⟩, hb36⟩
    replace hLL := hLL.new hb36
    replace hG := hG.new hb36
    replace hS := hS.new hb36
    refine WR_val rfl (rn_not rfl) ?_
    refine WR_nil ?_
    refine thenN ?_
    refine W_fnb rfl ((by rw [hbb.2 rfl])) ?_
    refine W_skip ?_
    refine thenN ?_
    refine W_seq ?_
    refine W_seq ?_
    refine W_region ?_
    refine WR_val rfl (rn_assign) ?_
    refine WR_nil ?_
    refine thenN ?_
    refine W_block ?_
    refine W_loop (α := Nat × Option Addr × List Rec × Nat) (0, q, S, cq) (fun k => [(13, .int .i64 (k.1 : Nat)), (3, .slice k.2.1 k.2.2.1.length k.2.2.2), (2, .slice p m cp), (10, .pointer (some ⟨x, 0, none⟩))])
      (fun k w' => k.1 ≤ m ∧ (∃ L' D' T' c' s', LgAt g x None lo L' D' (gOf n c' s' T' false) w' ∧ LogOn D' n c' c' s' T' ∧ D'.dead = false ∧ c' ≤ c + 1 + k.1 ∧ D'.V.length = D.V.length ∧ AllL lo L' w' k.2.1 k.2.2.1 ∧ T'.map (·.2) = k.2.2.1) ∧ LoL lo [] w w') (fun k => m - k.1)
      ⟨rfl, rfl, rfl, rfl, rfl⟩ ⟨Nat.zero_le _, ⟨L2, D2, T, c + 1, s, hG, hon2, hd2, by show c + 1 ≤ c + 1 + 0; omega, hDl, hS, hTS⟩, hLL⟩ ?_
    clear hG hS hLL hAa hcase hao hop2 o4 o1 o2 o3
    rintro ⟨i, q, S, cq⟩ f wr ⟨hi, ⟨L', D', T', c', s', hG, hon', hd', hcb', hDl', hS, hTS'⟩, hLL⟩
    dsimp only at *
    have hatn' : atT T' ≤ n := let ⟨_, _, _, _, e, _⟩ := hon'.inv.ex; e
    have hTl' := atT_len hon'.inv.ok
    have hSl' : S.length = T'.length := by rw [← hTS', List.length_map]
    have hao := okT_all hon'.inv.ok
    rw [hTS'] at hao
    refine W_seq ?_
    refine W_seq ?_
    refine W_region ?_
    refine WR_val rfl (rn_move) ?_
    refine WR_val rfl (rn_move) ?_
    refine WR_val rfl (rn_lenSl (e := 117) (sz := 4) (by kernel_rfl) rfl rfl) ?_
    refine WR_val rfl (rn_lss rfl rfl) ?_
    refine WR_nil ?_
    refine thenN ?_
    refine W_ifp rfl (fun hlt => ?_) (fun hlt => ?_)
    ·
      refine W_skip ?_
      refine thenN ?_
      refine W_seq ?_
      refine W_block ?_
      refine W_seq ?_
      have hobt := hR.get (i := i) (by omega)
      obtain ⟨a, hx⟩ := hobt
      have hRw := stsBelow hR (belLL hB0 hLL (by omega))
      have hobt := hRw.some (by omega)
      obtain ⟨gp, op, rfl, _⟩ := hobt
      have hle := hRw.ldB (P := Try.prog) (t := 117) (by kernel_rfl) (by kernel_rfl) hx
      obtain ⟨cs, ⟨ql, c1, q2, c2, rfl, hq1, hq2, _⟩, hcl, hld⟩ := hle
      have hfa := (hfew.2 a (List.mem_of_getElem? hx)).1
      have hlv := lv_of_els hq1
      have hrl := recOf_len a.lv
      have hrok := recOf_ok a.lv
      have hrec := record8 a.lv ql a.lv.length c1 wr hlv (by omega)
      generalize recOf a.lv = r at hrec hrl hrok
      replace hrec := hrec.to fun v w' hh => (show ownsAt w' wr.heap.size 90 513 v r.length (chsV r) ∧ Below wr.heap.size wr w' from ⟨by rw [hrl]; exact hh.1, hh.2⟩)
      refine W_region ?_
      refine WR_val rfl (rn_move) ?_
      refine WR_val rfl (rn_move) ?_
      refine WR_val rfl (rn_indexSl (e := 117) (sz := 4) (by kernel_rfl) rfl rfl (i) (by omega) (by omega)) ?_
      refine WR_val rfl (rn_fieldAddr (off := 2) (by kernel_rfl) rfl) ?_
      refine WR_val rfl (rn_load rfl (Ld.one (by kernel_rfl) ((hld _ (Below.refl _ _)).2 2 _ rfl))) ?_
      refine WR_ent rfl (rn_call (by kernel_rfl) rfl) (hrec) ?_
      rintro _ w49 ⟨hu, hb49⟩
      have hs := hu.form
      obtain ⟨qr, cr, rfl⟩ := hs
      replace hG := hG.newv hb49 hu (Nat.le_refl _)
      have hrr : RecL lo _ _ qr r := ⟨hu.sl, own_shel (L := L') hu⟩
      replace hS := (hS.new hb49).weak (L2 := (Value.slice qr r.length cr).ownBlock.toList ++ L') (fun b hb => List.mem_append_right _ hb)
      replace hLL := hLL.new hb49
      have hobt : ∃ L3, (Value.slice qr r.length cr).ownBlock.toList ++ L' = L3 := ⟨_, rfl⟩
      obtain ⟨L3, hL3⟩ := hobt
      rw [hL3] at hG hrr hS
      refine WR_val rfl (rn_assign) ?_
      refine WR_nil ?_
      refine thenN ?_
      refine W_seq ?_
      refine W_region ?_
      refine WR_val rfl (rn_move) ?_
      refine WR_val rfl (rn_move) ?_
      refine WR_val rfl (rn_indexSl (e := 117) (sz := 4) (by kernel_rfl) rfl rfl (i) (by omega) (by omega)) ?_
      refine WR_val rfl (rn_fieldAddr (off := 0) (by kernel_rfl) rfl) ?_
      refine WR_val rfl (rn_load rfl (Ld.one (by kernel_rfl) ((hld _ hb49).2 0 _ rfl))) ?_
      refine WR_nil ?_
      refine thenN ?_
      refine W_block ?_
      refine W_seq ?_
      refine W_region ?_
      refine WR_val rfl (rn_eql rfl rfl) ?_
      refine WR_val rfl (rn_assign) ?_
      refine WR_nil ?_
      refine thenN ?_
      refine W_ifp rfl (fun hk1 => ?_) (fun hk1 => ?_)
      ·
        refine W_seq ?_
        have hcc := commit_cases hon' hd' (by omega) hn hrok
        obtain ⟨e, D3, G3, hce, hl3, hs3, hcs⟩ := hcc
        have hcm := commit17 hG (hon'.lg (by omega) h4 hn false) (short_of hon'.short (by omega)) r hrok qr r.length cr hrr.at_ rfl (by omega)
        rw [hce] at hcm
        dsimp only at hcm
        refine W_region ?_
        refine WR_val rfl (rn_move) ?_
        refine WR_val rfl (rn_move) ?_
        refine WR_ent rfl (rn_call (by kernel_rfl) rfl) (hcm) ?_
        rintro _ w59 ⟨rfl, hG, hb59⟩
        replace hLL := hLL.ll hb59 (by first | (intro b hb; exact hb) | (intro b hb; simp [hb]; done) | simp)
        replace hS := hS.ll hb59 (by first | (intro b hb; exact hb) | (intro b hb; simp [hb]; done) | simp)
        replace hrr := hrr.ll hb59 (by first | (intro b hb; exact hb) | (intro b hb; simp [hb]; done) | simp)
        have hcs2 := hcs (tOk hG.two).1
        refine WR_val rfl (rn_assign) ?_
        refine WR_nil ?_
        refine thenN ?_
        refine W_seq ?_
        refine W_region ?_
        refine WR_val rfl (rn_move) ?_
        have hBx := Below.refl w59.heap.size w59
        obtain ⟨vs, hvs, hvsh, hel⟩ := hS.ex
        have hvl : vs.length = S.length := by have := hvs.len; omega
        have hv1 := AllL.one (i := 0) vs hel hvl
        refine WR_mk rfl (mk_append (e := 25) (sz := 1) (bytes := 24) (z := Value.slice none 0 0) (by kernel_rfl) rfl (by kernel_rfl) rfl (by decide) rfl (ownsAt_nil w59 w59.heap.size 25 1) rfl hvs hv1 (by unfold maxLen; omega) (by omega) (fun _ => Nat.le_refl _) (fun v61 w61 hv61 hgr61 hfr61 => ?_))
        have hb61 := below_of_nil hgr61
        replace hBx := hBx.acc hb61
        refine WR_val rfl (rn_move) ?_
        refine WR_mk rfl (mk_one (e := 25) (.slice qr r.length cr) ([.slice qr r.length cr]) ([Value.slice none 0 0]) 1 (by kernel_rfl) (by kernel_rfl) rfl rfl rfl ⟨by decide, by decide⟩ (fun g63 w63 hg63 hr63 hb63 => ?_))
        have ge_hBx_g63 := Nat.le_trans hBx.size hg63
        replace hv61 := hv61.new hb63
        replace hBx := hBx.acc hb63
        have hs63 := hr63.slA (m := 1) (sz := 1) rfl (by omega)
        have sz_hBx_64 := hBx.size
        refine WR_mk rfl (mk_append (e := 25) (sz := 1) (bytes := 24) (z := Value.slice none 0 0) (by kernel_rfl) rfl (by kernel_rfl) rfl (by decide) rfl hv61 rfl hs63 (by simp [Value.oneCell']) (by unfold maxLen; omega) (by omega) (fun hm0 => by omega) (fun v64 w64 hv64 hgr64 hfr64 => ?_))
        replace hBx := hBx.own hv61 hgr64 (by omega)
        refine WR_val rfl (rn_assign) ?_
        refine WR_nil ?_
        refine thenN ?_
        refine W_seq ?_
        refine W_seq ?_
        have hs := hv64.form
        obtain ⟨p4, c4, rfl⟩ := hs
        have hm1 : 0 + S.length + 1 = (S ++ [r]).length := by simp
        replace hG := hG.newv hBx hv64 (Nat.le_refl _)
        rw [hm1, List.nil_append] at hv64
        rw [hm1] at hG
        have hmore := AllL.snoc (L := (Value.slice p4 (S ++ [r]).length c4).ownBlock.toList ++ L3) hv64.sl (own_shel (L := L3) hv64) hvl (fun i y hy => let ⟨q, c, e, h5⟩ := hel i y hy; ⟨q, c, e, (h5.new hBx).weak fun b hb => List.mem_append_right _ hb⟩) ((hrr.new hBx).weak fun b hb => List.mem_append_right _ hb)
        replace hS := (hS.new hBx).weak (L2 := (Value.slice p4 (S ++ [r]).length c4).ownBlock.toList ++ L3) fun b hb => List.mem_append_right _ hb
        replace hLL := hLL.new hBx
        have hobt : ∃ L4, (Value.slice p4 (S ++ [r]).length c4).ownBlock.toList ++ L3 = L4 := ⟨_, rfl⟩
        obtain ⟨L4, hL4⟩ := hobt
        rw [hL4] at hG hmore hS
        refine W_region ?_
        refine WR_val rfl (rn_move) ?_
        refine WR_val rfl (rn_eql rfl rfl) ?_
        refine WR_nil ?_
        refine thenN ?_
        refine W_ifp rfl (fun h10 => ?_) (fun h10 => ?_)
        ·
          refine W_seq ?_
          have h3c : e = 10 ∧ G3.dead = true ∧ CrashOk D3 n c' [T'.map (·.2), T'.map (·.2) ++ [r]] := by
            rcases hcs2 with h | h | h
            · exact absurd h10 h.1
            · exact absurd (h.1.symm.trans h10) (by decide)
            · exact ⟨h.1, h.2.1, h.2.2.2⟩
          obtain ⟨he3, hdd3, hcr3⟩ := h3c
          rw [hTS'] at hcr3
          refine W_region ?_
          refine WR_val rfl (rn_move) ?_
          refine WR_val rfl (rn_move) ?_
          refine WR_mk rfl (mk_two (e := 51) (.slice q S.length cq) (.slice p4 (0 + S.length + 1) c4) ([.slice q S.length cq]) ([.slice p4 (0 + S.length + 1) c4]) ([Value.slice none 0 0]) 1 (by kernel_rfl) (by kernel_rfl) rfl rfl rfl rfl (by first | rfl | (simp; done) | (simp [bv_length, *]; done)) (by first | rfl | (simp; done) | (simp [bv_length, *]; done)) ⟨by decide, by decide⟩ (fun g69 w69 hg69 hr69 hb69 => ?_))
          replace hG := hG.newc hb69 hg69 hr69.lt
          replace hS := hS.new hb69
          replace hmore := hmore.new hb69
          replace hLL := hLL.new hb69
          refine WR_val rfl (rn_move) ?_
          refine WR_ent rfl (rn_call (by kernel_rfl) rfl) (dead23 hG) ?_
          rintro _ _ ⟨rfl, rfl⟩
          refine WR_val rfl (rn_assign) ?_
          refine WR_val rfl (rn_assign) ?_
          refine WR_nil ?_
          refine thenN ?_
          refine W_ret ?_
          refine thenR ?_
          refine blockR ?_
          refine blockR ?_
          refine thenR ?_
          refine loopR ?_
          refine blockR ?_
          refine thenR ?_
          refine ret_ret [_, _] ⟨rfl, rfl, trivial⟩ ?_
          rw [hm1] at hr69
          exact ⟨⟨some ⟨g69, 0, none⟩, [S, S ++ [r]], 2, D3, g69 :: L4, by rw [hdd3]; rfl, hG.fst, two_lists hr69 (hS.weak fun b hb => List.mem_cons_of_mem _ hb) (hmore.weak fun b hb => List.mem_cons_of_mem _ hb) (List.mem_cons_self ..), by simp, hcr3.up (by omega), hs3, hl3.trans hDl', all_two hao (all_snoc hao hrok (by omega))⟩, hLL⟩
        ·
          refine W_skip ?_
          refine thenN ?_
          refine W_seq ?_
          refine W_region ?_
          refine WR_val rfl (rn_move) ?_
          refine WR_val rfl (rn_eql rfl rfl) ?_
          refine WR_nil ?_
          refine thenN ?_
          refine W_ifp rfl (fun h0 => ?_) (fun h0 => ?_)
          ·
            refine W_region ?_
            refine WR_val rfl (rn_move) ?_
            refine WR_val rfl (rn_assign) ?_
            refine WR_nil ?_
            refine blockN ?_
            refine blockN ?_
            refine thenN ?_
            refine W_region ?_
            refine WR_val rfl (rn_move) ?_
            refine WR_val rfl (rn_add rfl rfl (Coup.w64 (by omega))) ?_
            refine WR_val rfl (rn_assign) ?_
            refine WR_nil ?_
            have h3c : G3 = gOf n c' s' (T' ++ [(c', r)]) false ∧ D3.dead = false ∧ LogOn D3 n c' c' s' (T' ++ [(c', r)]) := by
              rcases hcs2 with h | h | h
              · exact absurd h0 h.2.1
              · exact h.2
              · exact absurd h.1 h10
            obtain ⟨rfl, hd3, hon3⟩ := h3c
            refine loopN ⟨(i + 1, p4, S ++ [r], c4), by show m - (i + 1) < m - i; omega, ⟨by go_num, (by show Value.slice p4 (0 + S.length + 1) c4 = Value.slice p4 (S ++ [r]).length c4; rw [hm1]), rfl, rfl, rfl⟩, by show i + 1 ≤ m; omega, ⟨L4, D3, T' ++ [(c', r)], c', s', hG, hon3, hd3, by show c' ≤ c + 1 + (i + 1); omega, hl3.trans hDl', hmore, by rw [List.map_append, hTS']; rfl⟩, hLL⟩
          ·
            have h3c : D3 = D' ∧ G3 = gOf n c' s' T' false := by
              rcases hcs2 with h | h | h
              · exact h.2.2
              · exact absurd h.1 h0
              · exact absurd h.1 h10
            obtain ⟨rfl, rfl⟩ := h3c
            refine W_skip ?_
            refine blockN ?_
            refine blockN ?_
            refine thenN ?_
            refine W_region ?_
            refine WR_val rfl (rn_move) ?_
            refine WR_val rfl (rn_add rfl rfl (Coup.w64 (by omega))) ?_
            refine WR_val rfl (rn_assign) ?_
            refine WR_nil ?_
            refine loopN ⟨(i + 1, q, S, cq), by show m - (i + 1) < m - i; omega, ⟨by go_num, rfl, rfl, rfl, rfl⟩, by show i + 1 ≤ m; omega, ⟨L4, D3, T', c', s', hG, hon', hd', by show c' ≤ c + 1 + (i + 1); omega, hDl', hS, hTS'⟩, hLL⟩
      ·
        refine W_seq ?_
        refine W_region ?_
        refine WR_val rfl (rn_eql rfl rfl) ?_
        refine WR_val rfl (rn_assign) ?_
        refine WR_nil ?_
        refine thenN ?_
        refine W_ifp rfl (fun hk2 => ?_) (fun hk2 => ?_)
        ·
          refine W_seq ?_
          refine W_seq ?_
          refine W_region ?_
          refine WR_val rfl (rn_move) ?_
          refine WR_ent rfl (rn_call (by kernel_rfl) rfl) (trunc2 hG hon' hd' (by omega)) ?_
          rintro _ w78 ⟨e, D3, G3, rfl, hb78, hG, hl3, hs3, hcs⟩
          replace hLL := hLL.ll hb78 (by first | (intro b hb; exact hb) | (intro b hb; simp [hb]; done) | simp)
          replace hS := hS.ll hb78 (by first | (intro b hb; exact hb) | (intro b hb; simp [hb]; done) | simp)
          replace hrr := hrr.ll hb78 (by first | (intro b hb; exact hb) | (intro b hb; simp [hb]; done) | simp)
          refine WR_val rfl (rn_neq rfl rfl) ?_
          refine WR_nil ?_
          refine thenN ?_
          refine W_ifp rfl (fun h0 => ?_) (fun h0 => ?_)
          ·
            refine W_seq ?_
            have h3c : e = 10 ∧ G3.dead = true ∧ CrashOk D3 n (c' + 1) [T'.map (·.2), []] := hcs.elim (fun h => absurd h.1 h0) fun h => ⟨h.1, h.2.1, h.2.2.2⟩
            obtain ⟨he3, hdd3, hcr3⟩ := h3c
            rw [hTS'] at hcr3
            refine W_region ?_
            refine WR_val rfl (rn_move) ?_
            refine WR_mk rfl (mk_two (e := 51) (.slice q S.length cq) (.slice none 0 0) ([.slice q S.length cq]) ([.slice none 0 0]) ([Value.slice none 0 0]) 1 (by kernel_rfl) (by kernel_rfl) rfl rfl rfl rfl (by first | rfl | (simp; done) | (simp [bv_length, *]; done)) (by first | rfl | (simp; done) | (simp [bv_length, *]; done)) ⟨by decide, by decide⟩ (fun g81 w81 hg81 hr81 hb81 => ?_))
            replace hLL := hLL.new hb81
            replace hG := hG.newc hb81 hg81 hr81.lt
            replace hS := hS.new hb81
            replace hrr := hrr.new hb81
            refine WR_val rfl (rn_move) ?_
            refine WR_ent rfl (rn_call (by kernel_rfl) rfl) (dead23 hG) ?_
            rintro _ _ ⟨rfl, rfl⟩
            refine WR_val rfl (rn_assign) ?_
            refine WR_val rfl (rn_assign) ?_
            refine WR_nil ?_
            refine thenN ?_
            refine W_ret ?_
            refine thenR ?_
            refine blockR ?_
            refine blockR ?_
            refine thenR ?_
            refine loopR ?_
            refine blockR ?_
            refine thenR ?_
            refine ret_ret [_, _] ⟨rfl, rfl, trivial⟩ ?_
            exact ⟨⟨some ⟨g81, 0, none⟩, [S, []], 2, D3, g81 :: L3, by rw [hdd3]; rfl, hG.fst, two_lists (S2 := []) hr81 (hS.weak fun b hb => List.mem_cons_of_mem _ hb) (AllL.nil ..) (List.mem_cons_self ..), by simp, hcr3.up (by omega), hs3, hl3.trans hDl', all_two hao (fun r hr => nomatch hr)⟩, hLL⟩
          ·
            have h3c : G3 = gOf n (c' + 1) (c' + 1) [] false ∧ D3.dead = false ∧ LogOn D3 n (c' + 1) (c' + 1) (c' + 1) [] := hcs.elim (fun h => h.2) fun h => absurd h.1 (fun e => h0 (by rw [e]; decide))
            obtain ⟨rfl, hd3, hon3⟩ := h3c
            refine W_skip ?_
            refine thenN ?_
            refine W_region ?_
            refine WR_val rfl (rn_assign) ?_
            refine WR_nil ?_
            refine blockN ?_
            refine blockN ?_
            refine thenN ?_
            refine W_region ?_
            refine WR_val rfl (rn_move) ?_
            refine WR_val rfl (rn_add rfl rfl (Coup.w64 (by omega))) ?_
            refine WR_val rfl (rn_assign) ?_
            refine WR_nil ?_
            refine loopN ⟨(i + 1, none, [], 0), by show m - (i + 1) < m - i; omega, ⟨by go_num, rfl, rfl, rfl, rfl⟩, by show i + 1 ≤ m; omega, ⟨L3, D3, [], c' + 1, c' + 1, hG, hon3, hd3, by show c' + 1 ≤ c + 1 + (i + 1); omega, hl3.trans hDl', AllL.nil .., rfl⟩, hLL⟩
        ·
          refine W_skip ?_
          refine blockN ?_
          refine blockN ?_
          refine thenN ?_
          refine W_region ?_
          refine WR_val rfl (rn_move) ?_
          refine WR_val rfl (rn_add rfl rfl (Coup.w64 (by omega))) ?_
          refine WR_val rfl (rn_assign) ?_
          refine WR_nil ?_
          refine loopN ⟨(i + 1, q, S, cq), by show m - (i + 1) < m - i; omega, ⟨by go_num, rfl, rfl, rfl, rfl⟩, by show i + 1 ≤ m; omega, ⟨L3, D', T', c', s', hG, hon', hd', by show c' ≤ c + 1 + (i + 1); omega, hDl', hS, hTS'⟩, hLL⟩
    ·
      refine W_exit ?_
      refine thenX ?_
      refine loopX ?_
      refine blockX ?_
      refine thenN ?_
      refine W_seq ?_
      refine W_region ?_
      refine WR_val rfl (rn_move) ?_
      refine WR_mk rfl (mk_one (e := 51) (.slice q S.length cq) ([.slice q S.length cq]) ([Value.slice none 0 0]) 1 (by kernel_rfl) (by kernel_rfl) rfl rfl rfl ⟨by decide, by decide⟩ (fun g85 w85 hg85 hr85 hb85 => ?_))
      replace hLL := hLL.new hb85
      replace hG := hG.newc hb85 hg85 hr85.lt
      replace hS := hS.new hb85
      refine WR_val rfl (rn_assign) ?_
      refine WR_val rfl (rn_assign) ?_
      refine WR_nil ?_
      refine thenN ?_
      refine W_ret ?_
      refine ret_ret [_, _] ⟨rfl, rfl, trivial⟩ ?_
      have hrest := hon'.rest (Nat.le_succ _)
      rw [hTS'] at hrest
      exact ⟨⟨some ⟨g85, 0, none⟩, [S], 1, D', g85 :: L', rfl, hG.fst, one_list hr85 (hS.weak fun b hb => List.mem_cons_of_mem _ hb) (List.mem_cons_self ..), by simp, hrest.up (by omega), short_of hon'.short (by omega), hDl', all_one hao⟩, hLL⟩
end Go.Proofs.Ytkkgahgpemepeaa

/- The law WalLasts: what is committed lasts. -/
namespace Go.Proofs.Ytkkgahgpemepeaa
open Go Go.RowKit Coup

theorem fuse_ok {D : Dk} (h : DkOk D) (k : Int) : DkOk (fuseA D k) := by
  unfold fuseA
  split
  · exact ⟨h.n, h.ne, h.sec, h.short⟩
  · exact h
theorem fuse_V (D : Dk) (k : Int) : (fuseA D k).V = D.V ∧ (fuseA D k).dead = D.dead := by
  unfold fuseA
  split <;> exact ⟨rfl, rfl⟩
theorem LogOn.fuse {D : Dk} {n c cx s : Nat} {T : List (Nat × Rec)} (h : LogOn D n c cx s T) (k : Int) : LogOn (fuseA D k) n c cx s T := by
  have hV := (fuse_V D k).1
  refine h.same (fuse_ok h.ok k) (by rw [hV]) (fun v hv => h.short v (by rw [← hV]; exact hv)) fun j _ => by rw [readD, readD, ver_V hV]
theorem fmt_on {m n : Nat} (hm : 1 + n ≤ m) (hok : DkOk (fmtD (newD m) n)) : LogOn (fmtD (newD m) n) n 1 2 1 [] ∧ (fmtD (newD m) n).dead = false ∧ (fmtD (newD m) n).V.length = m := by
  obtain ⟨h1, h2, h3⟩ := fmt_alive (alive_new (n := m) (by omega)) n
  rw [newD_len] at h2 h3
  refine ⟨⟨hok, by rw [h2]; exact hm, h1.short, by rw [h3 0 (by omega), if_pos rfl], ?_⟩, h1.dead, h2⟩
  rw [show logB (fmtD (newD m) n) n = zerosB (128 * n) from secL_zeros fun j hj => by rw [h3 _ (by omega), if_neg (by omega), if_pos (by omega)]]
  exact inv_zero n
/-- Opened on a disk that lives. -/
theorem openLives {g lo n c s k : Nat} {L : List Nat} {D : Dk} {w : World} {T : List (Nat × Rec)} {S : List Rec} (h : Two (DZ g D) None lo L w) (hon : LogOn D n c (c + 1) s T) (ha : Alive D k) (hc : c < 4611686018427387904) (h4 : 4 ≤ n) (hn : n ≤ 4000) (hTS : T.map (·.2) = S) :
    Calls Try.prog 24 [.pointer (some ⟨g, 0, none⟩), .int .i64 (n : Int)].toArray w (Ret fun v w' => (∃ x pa ca D2 L2, v = .tuple #[.pointer (some ⟨x, 0, none⟩), .slice pa S.length ca, .int .i64 0] ∧ (∀ b ∈ L, b ∈ L2) ∧ Two (DZ g D2) None lo L2 w' ∧ AllL lo L2 w' pa S ∧ D2.dead = false ∧ LogOn D2 n (c + 1) (c + 1 + 1) s T ∧ D2.V.length = D.V.length) ∧ LoL lo L w w') := by
  obtain ⟨o1, o2, o3, o4⟩ := hon.opens hc h4 hn
  have hop := openYes h n o1 (short_of hon.short (by omega))
  rw [o2, o3, o4, hTS] at hop
  refine hop.to ?_
  rintro v w' ⟨ok, D2, C, s', S', hok, hD2, rfl, rfl, rfl, hLL, hh⟩
  rw [(save_alive ha (c + 1) s).1] at hok
  subst hok
  rcases hh with ⟨e, _⟩ | ⟨_, x, pa, ca, rfl, _, hG⟩
  · cases e
  · subst hD2
    rcases open_cases hon ha.dead (tOk hG.two).1 with ⟨_, e2, e3⟩ | ⟨e, _⟩
    · obtain ⟨C, hz, hG2⟩ := lg_out hG
      exact ⟨⟨x, pa, ca, _, C ++ L, rfl, fun b hb => List.mem_append_right _ hb, hG2.fst, hz.l fun b hb => List.mem_append_left _ hb, e2, e3.up (c' := c) (by omega), save_lenD D (c + 1) s⟩, hLL⟩
    · rw [(save_alive ha (c + 1) s).1] at e; cases e
theorem LiQ.below {w w' : World} {a : LifeT} {cs : List Value} (h : LiQ w a cs) (hb : Below w.heap.size w w') : LiQ w' a cs := by
  obtain ⟨q, cp, q2, cp2, h1, h2, h3, h4⟩ := h
  exact ⟨q, cp, q2, cp2, h1, stsBelow h2 hb, h3.below hb (Nat.le_refl _), h4⟩
set_option maxRecDepth 20000 in
set_option maxHeartbeats 4000000 in
theorem walLastsC (size : Int) (p : Option Addr) (n cp : Nat) (R : List LifeT) (w : World) (ws : wf64 size) (hR : ElsAt (LiQ w) w 3 p n R) :
    Calls Try.prog 6 [.int .i64 size, .slice p n cp].toArray w (Ret fun v w' => v = .bool true ∧ Below w.heap.size w w') := by
  have hB := Below.refl w.heap.size w
  have hml : maxLen = 9223372036854775807 := by decide
  have hmax := hR.max
  have hRl := hR.1
  refine calls_W (fn := Try.f6) (rs := [.tmp 4]) (n := 135) Try.func6 rfl rfl Try.ntmps6 (by kernel_rfl) rfl ?_
  refine W_seq ?_
  refine W_region ?_
  refine WR_val rfl (rn_assign) ?_
  refine WR_nil ?_
  refine thenN ?_
  refine W_seq ?_
  refine W_seq ?_
  refine W_region ?_
  refine WR_val rfl (rn_move) ?_
  refine WR_val rfl (rn_lenSl (e := 79) (sz := 3) (by kernel_rfl) rfl rfl) ?_
  refine WR_val rfl (rn_gtr rfl rfl) ?_
  refine WR_val rfl (rn_move) ?_
  refine WR_part 20 rfl (fun h6 => ?_) (fun h6 => ?_)
  ·
    refine WR_no rfl rfl ?_
    refine WR_no rfl rfl ?_
    refine WR_val rfl (rn_pick_t rfl) ?_
    refine WR_val rfl (rn_move) ?_
    refine WR_no rfl rfl ?_
    refine WR_no rfl rfl ?_
    refine WR_val rfl (rn_pick_t rfl) ?_
    refine WR_nil ?_
    refine thenN ?_
    refine W_tb rfl (rfl) ?_
    refine W_seq ?_
    refine W_region ?_
    refine WR_ent rfl (rn_call (by kernel_rfl) rfl) (known7 w) ?_
    rintro _ w28 ⟨rfl, hb28⟩
    replace hB := hB.acc hb28
    refine WR_val rfl (rn_assign) ?_
    refine WR_nil ?_
    refine thenN ?_
    refine W_ret ?_
    refine thenR ?_
    refine ret_ret [_] ⟨rfl, trivial⟩ ?_
    exact ⟨rfl, hB⟩
  ·
    refine WR_yes rfl ?_
    refine WR_val rfl (rn_move) ?_
    refine WR_yes rfl ?_
    refine WR_val rfl (rn_lss rfl rfl) ?_
    refine WR_val rfl (rn_pick_f rfl) ?_
    refine WR_val rfl (rn_move) ?_
    refine WR_part 24 rfl (fun hs4 => ?_) (fun hs4 => ?_)
    ·
      refine WR_no rfl rfl ?_
      refine WR_no rfl rfl ?_
      refine WR_val rfl (rn_pick_t rfl) ?_
      refine WR_nil ?_
      refine thenN ?_
      refine W_tb rfl (rfl) ?_
      refine W_seq ?_
      refine W_region ?_
      refine WR_ent rfl (rn_call (by kernel_rfl) rfl) (known7 w) ?_
      rintro _ w28 ⟨rfl, hb28⟩
      replace hB := hB.acc hb28
      refine WR_val rfl (rn_assign) ?_
      refine WR_nil ?_
      refine thenN ?_
      refine W_ret ?_
      refine thenR ?_
      refine ret_ret [_] ⟨rfl, trivial⟩ ?_
      exact ⟨rfl, hB⟩
    ·
      refine WR_yes rfl ?_
      refine WR_val rfl (rn_move) ?_
      refine WR_yes rfl ?_
      refine WR_val rfl (rn_gtr rfl rfl) ?_
      refine WR_val rfl (rn_pick_f rfl) ?_
      refine WR_nil ?_
      refine thenN ?_
      refine W_ifp rfl (fun h200 => ?_) (fun h200 => ?_)
      ·
        refine W_seq ?_
        refine W_region ?_
        refine WR_ent rfl (rn_call (by kernel_rfl) rfl) (known7 w) ?_
        rintro _ w28 ⟨rfl, hb28⟩
        replace hB := hB.acc hb28
        refine WR_val rfl (rn_assign) ?_
        refine WR_nil ?_
        refine thenN ?_
        refine W_ret ?_
        refine thenR ?_
        refine ret_ret [_] ⟨rfl, trivial⟩ ?_
        exact ⟨rfl, hB⟩
      ·
        have hobt : ∃ k : Nat, size = k := ⟨size.toNat, by omega⟩
        obtain ⟨k, rfl⟩ := hobt
        refine W_skip ?_
        refine thenN ?_
        refine W_seq ?_
        refine W_seq ?_
        refine W_region ?_
        refine WR_val rfl (rn_assign) ?_
        refine WR_nil ?_
        refine thenN ?_
        refine W_block ?_
        refine W_loop (α := Nat) 0 (fun i => [(5, .int .i64 (i : Nat)), (0, .int .i64 (k : Nat)), (1, .slice p n cp)])
          (fun i w' => i ≤ n ∧ (∀ j a, j < i → R[j]? = some a → fewS a.steps 12 ∧ a.picks.length ≤ 300) ∧ w = w') (fun i => n - i) ⟨rfl, rfl, rfl, rfl⟩ ⟨Nat.zero_le _, (by intro j a hj; exact absurd hj (Nat.not_lt_zero _)), rfl⟩ ?_
        clear hB
        rintro i f wr ⟨hi, hall, rfl⟩
        have hB := Below.refl w.heap.size w
        refine W_seq ?_
        refine W_seq ?_
        refine W_region ?_
        refine WR_val rfl (rn_move) ?_
        refine WR_val rfl (rn_move) ?_
        refine WR_val rfl (rn_lenSl (e := 79) (sz := 3) (by kernel_rfl) rfl rfl) ?_
        refine WR_val rfl (rn_lss rfl rfl) ?_
        refine WR_nil ?_
        refine thenN ?_
        refine W_ifp rfl (fun hlt => ?_) (fun hlt => ?_)
        ·
          refine W_skip ?_
          refine thenN ?_
          refine W_seq ?_
          refine W_block ?_
          refine W_seq ?_
          have hobt := hR.get (i := i) (by omega)
          obtain ⟨a, hx⟩ := hobt
          have hobt := hR.some (by omega)
          obtain ⟨gp, op, rfl, _⟩ := hobt
          have hle := hR.el hx
          obtain ⟨cs, ⟨q1, c1, q2, c2, rfl, hq1, hq2, hok2, hwf⟩, hcl, hce⟩ := hle
          refine W_region ?_
          refine WR_val rfl (rn_move) ?_
          refine WR_val rfl (rn_move) ?_
          refine WR_val rfl (rn_indexSl (e := 79) (sz := 3) (by kernel_rfl) rfl rfl (i) (by omega) (by omega)) ?_
          refine WR_val rfl (rn_fieldAddr (off := 1) (by kernel_rfl) rfl) ?_
          refine WR_val rfl (rn_load rfl (Ld.one (by kernel_rfl) (hce 1 _ rfl))) ?_
          refine WR_ent rfl (rn_call (by kernel_rfl) rfl) (few34 q1 a.steps.length c1 12 a.steps w hq1 (by omega)) ?_
          rintro _ _ ⟨fB, rfl, hfB, rfl⟩
          refine WR_val rfl (rn_not rfl) ?_
          refine WR_val rfl (rn_move) ?_
          refine WR_partnb 42 rfl (fun hf => ?_) (fun hf => ?_)
          ·
            refine WR_no rfl rfl ?_
            refine WR_no rfl rfl ?_
            refine WR_no rfl rfl ?_
            refine WR_no rfl rfl ?_
            refine WR_no rfl rfl ?_
            refine WR_no rfl rfl ?_
            refine WR_no rfl rfl ?_
            refine WR_val rfl (rn_pick_t rfl) ?_
            refine WR_nil ?_
            refine thenN ?_
            refine W_tb rfl (rfl) ?_
            refine W_seq ?_
            refine W_region ?_
            refine WR_ent rfl (rn_call (by kernel_rfl) rfl) (known7 w) ?_
            rintro _ w51 ⟨rfl, hb51⟩
            replace hB := hB.acc hb51
            refine WR_val rfl (rn_assign) ?_
            refine WR_nil ?_
            refine thenN ?_
            refine W_ret ?_
            refine blockR ?_
            refine thenR ?_
            refine loopR ?_
            refine blockR ?_
            refine thenR ?_
            refine ret_ret [_] ⟨rfl, trivial⟩ ?_
            exact ⟨rfl, hB⟩
          ·
            refine WR_yes rfl ?_
            refine WR_val rfl (rn_move) ?_
            refine WR_yes rfl ?_
            refine WR_val rfl (rn_move) ?_
            refine WR_yes rfl ?_
            refine WR_val rfl (rn_indexSl (e := 79) (sz := 3) (by kernel_rfl) rfl rfl (i) (by omega) (by omega)) ?_
            refine WR_yes rfl ?_
            refine WR_val rfl (rn_fieldAddr (off := 2) (by kernel_rfl) rfl) ?_
            refine WR_yes rfl ?_
            refine WR_val rfl (rn_load rfl (Ld.one (by kernel_rfl) (hce 2 _ rfl))) ?_
            refine WR_yes rfl ?_
            refine WR_val rfl (rn_lenSl (e := 3) (sz := 1) (by kernel_rfl) rfl rfl) ?_
            refine WR_yes rfl ?_
            refine WR_val rfl (rn_gtr rfl rfl) ?_
            refine WR_val rfl (rn_pick_f rfl) ?_
            refine WR_nil ?_
            refine thenN ?_
            refine W_ifp rfl (fun h300 => ?_) (fun h300 => ?_)
            ·
              refine W_seq ?_
              refine W_region ?_
              refine WR_ent rfl (rn_call (by kernel_rfl) rfl) (known7 w) ?_
              rintro _ w51 ⟨rfl, hb51⟩
              replace hB := hB.acc hb51
              refine WR_val rfl (rn_assign) ?_
              refine WR_nil ?_
              refine thenN ?_
              refine W_ret ?_
              refine blockR ?_
              refine thenR ?_
              refine loopR ?_
              refine blockR ?_
              refine thenR ?_
              refine ret_ret [_] ⟨rfl, trivial⟩ ?_
              exact ⟨rfl, hB⟩
            ·
              refine W_skip ?_
              refine blockN ?_
              refine thenN ?_
              refine W_region ?_
              refine WR_val rfl (rn_move) ?_
              refine WR_val rfl (rn_add rfl rfl (Coup.w64 (by omega))) ?_
              refine WR_val rfl (rn_assign) ?_
              refine WR_nil ?_
              refine loopN ⟨i + 1, by omega, ⟨by go_num, rfl, rfl, rfl⟩, by omega, (fun j b hj hb => ?_), rfl⟩
              by_cases hji : j = i
              · rw [hji, hx] at hb; cases hb
                exact ⟨hfB hf, by omega⟩
              · exact hall j b (by omega) hb
        ·
          have hin : n = i := by omega
          subst hin
          have hN := newC (w := w) (k + 2) (by omega) (by omega)
          rw [show ((k + 2 : Nat) : Int) = (k : Int) + 2 by omega] at hN
          have hfit : fitsN (k + 2) (k : Int) = true := decide_eq_true (by omega)
          refine W_exit ?_
          refine thenX ?_
          refine loopX ?_
          refine blockX ?_
          refine thenN ?_
          refine W_seq ?_
          refine W_region ?_
          refine WR_val rfl (rn_move) ?_
          refine WR_val rfl (rn_add rfl rfl (Coup.w64 (by omega))) ?_
          refine WR_ent rfl (rn_call (by kernel_rfl) rfl) (hN) ?_
          rintro _ w55 ⟨g, B, rfl, hX, hBlo, hb55⟩
          replace hB := hB.acc hb55
          have hD : Two (DZ g (newD (k + 2))) None w.heap.size [] w55 := Two.one hX (fun b hb => ⟨hBlo b hb, by simp⟩) hB.size (by simp)
          refine WR_val rfl (rn_move) ?_
          refine WR_val rfl (rn_extract rfl rfl) ?_
          refine WR_val rfl (rn_extract rfl rfl) ?_
          refine WR_val rfl (rn_assign) ?_
          refine WR_val rfl (rn_assign) ?_
          refine WR_nil ?_
          refine thenN ?_
          refine W_seq ?_
          refine W_seq ?_
          refine W_region ?_
          refine WR_val rfl (rn_move) ?_
          refine WR_val rfl (rn_neq rfl rfl) ?_
          refine WR_val rfl (rn_move) ?_
          refine WR_fp 60 rfl ((by omega)) ?_
          refine WR_yes rfl ?_
          refine WR_val rfl (rn_move) ?_
          refine WR_yes rfl ?_
          refine WR_val rfl (rn_move) ?_
          refine WR_yes rfl ?_
          have hfm := format26 hD k ⟨by omega, by omega⟩ ((alive_new (n := k + 2) (by omega)).weak (by omega))
          have hon := fmt_on (m := k + 2) (n := k) (by omega)
          rw [newD_len, hfit, if_pos rfl, if_pos rfl, Int.toNat_natCast] at hfm
          have hobt : ∃ D0, fmtD (newD (k + 2)) k = D0 := ⟨_, rfl⟩
          obtain ⟨D0, hD0⟩ := hobt
          rw [hD0] at hfm hon
          refine WR_ent rfl (rn_call (by kernel_rfl) rfl) (hfm) ?_
          rintro _ w63 ⟨rfl, hD, hb63⟩
          replace hB := belLL hB hb63 (by omega)
          refine WR_yes rfl ?_
          refine WR_val rfl (rn_neq rfl rfl) ?_
          refine WR_val rfl (rn_pick_f rfl) ?_
          refine WR_nil ?_
          refine thenN ?_
          refine W_fp rfl ((by omega)) ?_
          refine W_skip ?_
          refine thenN ?_
          refine W_seq ?_
          refine W_region ?_
          refine WR_val rfl (rn_assign) ?_
          refine WR_nil ?_
          refine thenN ?_
          refine W_seq ?_
          refine W_seq ?_
          refine W_region ?_
          refine WR_val rfl (rn_assign) ?_
          refine WR_nil ?_
          refine thenN ?_
          refine W_block ?_
          have hon2 := hon (tOk hD).1
          obtain ⟨hon0, hd0, hl0⟩ := hon2
          refine W_loop (α := Nat × Option Addr × List Rec × Nat) (0, none, [], 0) (fun j => [(9, .int .i64 (j.1 : Nat)), (8, .slice j.2.1 j.2.2.1.length j.2.2.2), (6, .pointer (some ⟨g, 0, none⟩)), (0, .int .i64 (k : Nat)), (1, .slice p n cp)])
            (fun j w' => j.1 ≤ n ∧ (∃ L' D' T' c' s', Two (DZ g D') None w.heap.size L' w' ∧ LogOn D' k c' (c' + 1) s' T' ∧ D'.dead = false ∧ c' ≤ 2 + 40 * j.1 ∧ AllL w.heap.size L' w' j.2.1 j.2.2.1 ∧ T'.map (·.2) = j.2.2.1 ∧ D'.V.length = k + 2) ∧ Below w.heap.size w w') (fun j => n - j.1)
            ⟨rfl, rfl, rfl, rfl, rfl, rfl⟩ ⟨Nat.zero_le _, ⟨[], D0, [], 1, 1, hD, hon0, hd0, by omega, AllL.nil .., rfl, hl0⟩, hB⟩ ?_
          clear hD hB
          rintro ⟨i, q, S, cq⟩ f wr ⟨hi, ⟨L', D', T', c', s', hD, hon, hd, hcb, hS, hTS, hDl⟩, hB⟩
          dsimp only at *
          refine W_seq ?_
          refine W_seq ?_
          refine W_region ?_
          refine WR_val rfl (rn_move) ?_
          refine WR_val rfl (rn_move) ?_
          refine WR_val rfl (rn_lenSl (e := 79) (sz := 3) (by kernel_rfl) rfl rfl) ?_
          refine WR_val rfl (rn_lss rfl rfl) ?_
          refine WR_nil ?_
          refine thenN ?_
          refine W_ifp rfl (fun hlt => ?_) (fun hlt => ?_)
          ·
            refine W_skip ?_
            refine thenN ?_
            refine W_seq ?_
            refine W_block ?_
            refine W_cut (fun _ : Unit => [(9, .int .i64 (i : Nat)), (8, .slice q S.length cq), (6, .pointer (some ⟨g, 0, none⟩)), (0, .int .i64 (k : Nat)), (1, .slice p n cp)]) (fun _ w' => (∃ D'', Two (DZ g D'') None w.heap.size L' w' ∧ LogOn D'' k c' (c' + 1) s' T' ∧ D''.dead = false ∧ D''.V.length = k + 2) ∧ AllL w.heap.size L' w' q S ∧ Below w.heap.size w w') ?_ ?_
            ·
              refine W_seq ?_
              have hobt := hR.get (i := i) (by omega)
              obtain ⟨a, hx⟩ := hobt
              have hobt := hR.some (by omega)
              obtain ⟨gp, op, rfl, _⟩ := hobt
              have hle := hR.ldB (P := Try.prog) (t := 79) (by kernel_rfl) (by kernel_rfl) hx
              obtain ⟨cs, ⟨q1, c1, q2, c2, rfl, hq1, hq2, hok2, hwf⟩, hcl, hld⟩ := hle
              have hobt := hall i a (by omega) hx
              obtain ⟨hfew, hp3⟩ := hobt
              refine W_region ?_
              refine WR_val rfl (rn_move) ?_
              refine WR_val rfl (rn_move) ?_
              refine WR_val rfl (rn_indexSl (e := 79) (sz := 3) (by kernel_rfl) rfl rfl (i) (by omega) (by omega)) ?_
              refine WR_val rfl (rn_fieldAddr (off := 0) (by kernel_rfl) rfl) ?_
              refine WR_val rfl (rn_load rfl (Ld.one (by kernel_rfl) ((hld _ hB).2 0 _ rfl))) ?_
              refine WR_val rfl (rn_geq rfl rfl) ?_
              refine WR_nil ?_
              refine thenN ?_
              refine W_ifp rfl (fun hfu => ?_) (fun hfu => ?_)
              ·
                refine W_region ?_
                refine WR_val rfl (rn_move) ?_
                refine WR_val rfl (rn_move) ?_
                refine WR_val rfl (rn_move) ?_
                refine WR_val rfl (rn_indexSl (e := 79) (sz := 3) (by kernel_rfl) rfl rfl (i) (by omega) (by omega)) ?_
                refine WR_val rfl (rn_fieldAddr (off := 0) (by kernel_rfl) rfl) ?_
                refine WR_val rfl (rn_load rfl (Ld.one (by kernel_rfl) ((hld _ hB).2 0 _ rfl))) ?_
                refine WR_ent rfl (rn_call (by kernel_rfl) rfl) (tFuse hD a.fuse hwf.2) ?_
                rintro _ w84 ⟨_, hD, hb84⟩
                replace hS := hS.ll hb84 (by first | (intro b hb; exact hb) | (intro b hb; simp [hb]; done) | simp)
                replace hB := belLL hB hb84 (by omega)
                refine WR_nil ?_
                exact ⟨(), ⟨rfl, rfl, rfl, rfl, rfl, rfl⟩, ⟨_, hD, hon.fuse _, (fuse_V _ _).2.trans hd, by rw [(fuse_V _ _).1]; exact hDl⟩, hS, hB⟩
              ·
                refine W_skip ?_
                exact ⟨(), ⟨rfl, rfl, rfl, rfl, rfl, rfl⟩, ⟨_, hD, hon, hd, hDl⟩, hS, hB⟩
            ·
              clear hD hS hB hon hd hDl
              rintro _ f wc ⟨⟨D1, hD, hon, hd, hDl⟩, hS, hB⟩
              have hobt := hR.get (i := i) (by omega)
              obtain ⟨a, hx⟩ := hobt
              have hobt := hR.some (by omega)
              obtain ⟨gp, op, rfl, _⟩ := hobt
              have hle := hR.ldB (P := Try.prog) (t := 79) (by kernel_rfl) (by kernel_rfl) hx
              obtain ⟨cs, ⟨q1, c1, q2, c2, rfl, hq1, hq2, hok2, hwf⟩, hcl, hld⟩ := hle
              have hobt := hall i a (by omega) hx
              obtain ⟨hfew, hp3⟩ := hobt
              refine W_seq ?_
              refine W_region ?_
              refine WR_val rfl (rn_move) ?_
              refine WR_val rfl (rn_move) ?_
              refine WR_val rfl (rn_move) ?_
              refine WR_val rfl (rn_move) ?_
              refine WR_val rfl (rn_indexSl (e := 79) (sz := 3) (by kernel_rfl) rfl rfl (i) (by omega) (by omega)) ?_
              refine WR_val rfl (rn_fieldAddr (off := 1) (by kernel_rfl) rfl) ?_
              refine WR_val rfl (rn_load rfl (Ld.one (by kernel_rfl) ((hld _ hB).2 1 _ rfl))) ?_
              refine WR_val rfl (rn_move) ?_
              have hlv := live36 hD hon hd (by omega) (by omega) (by omega) q1 a.steps.length c1 a.steps hq1 hB hfew q cq S hS hTS
              refine WR_ent rfl (rn_call (by kernel_rfl) rfl) (hlv) ?_
              rintro _ w94 ⟨⟨pm, ML, cm, D3, L3, rfl, hD, hM, hM2, hcr, hs3, hl3, hao⟩, hb94⟩
              replace hB := belLL hB hb94 (by omega)
              refine WR_val rfl (rn_move) ?_
              refine WR_val rfl (rn_extract rfl rfl) ?_
              refine WR_val rfl (rn_extract rfl rfl) ?_
              refine WR_val rfl (rn_assign) ?_
              refine WR_val rfl (rn_assign) ?_
              refine WR_nil ?_
              refine thenN ?_
              refine W_seq ?_
              refine W_seq ?_
              refine W_region ?_
              refine WR_val rfl (rn_move) ?_
              refine WR_val rfl (rn_not rfl) ?_
              refine WR_nil ?_
              refine thenN ?_
              refine W_fnb rfl ((by simp)) ?_
              refine W_skip ?_
              refine thenN ?_
              refine W_seq ?_
              refine W_seq ?_
              refine W_region ?_
              refine WR_val rfl (rn_move) ?_
              refine WR_val rfl (rn_move) ?_
              refine WR_val rfl (rn_move) ?_
              refine WR_val rfl (rn_indexSl (e := 79) (sz := 3) (by kernel_rfl) rfl rfl (i) (by omega) (by omega)) ?_
              refine WR_val rfl (rn_fieldAddr (off := 2) (by kernel_rfl) rfl) ?_
              refine WR_val rfl (rn_load rfl (Ld.one (by kernel_rfl) ((hld _ hB).2 2 _ rfl))) ?_
              have hcr1 := tCrash hD q2 a.picks.length c2 a.picks (hq2.below hB (Nat.le_refl _)) (fun h0 b o e => .inl (by obtain ⟨g', o', e', hl⟩ := hq2.some (by omega); rw [e'] at e; cases e; exact hl))
              have hobt := hcr a.picks
              obtain ⟨c4, s4, T4, hc4, hon4, hmem4⟩ := hobt
              have ha4 : Alive (crashD D3 a.picks) 1000 := alive_crash hs3 (by omega) (by omega) a.picks
              have hl4 := crash_len D3 a.picks
              have hobt : ∃ D4, crashD D3 a.picks = D4 := ⟨_, rfl⟩
              obtain ⟨D4, hD4⟩ := hobt
              rw [hD4] at hcr1 hon4 ha4 hl4
              have hobt : ∃ S4, T4.map (·.2) = S4 := ⟨_, rfl⟩
              obtain ⟨S4, hS4⟩ := hobt
              rw [hS4] at hmem4
              refine WR_ent rfl (rn_call (by kernel_rfl) rfl) (hcr1) ?_
              rintro _ w105 ⟨rfl, hD, hb105⟩
              replace hM := hM.ll hb105 (by first | (intro b hb; exact hb) | (intro b hb; simp [hb]; done) | simp)
              replace hB := belLL hB hb105 (by omega)
              refine WR_val rfl (rn_neq rfl rfl) ?_
              refine WR_nil ?_
              refine thenN ?_
              refine W_fp rfl ((by omega)) ?_
              refine W_skip ?_
              refine thenN ?_
              refine W_seq ?_
              refine W_region ?_
              refine WR_val rfl (rn_move) ?_
              refine WR_val rfl (rn_move) ?_
              have hop := openLives hD hon4 ha4 (by omega) (by omega) (by omega) hS4
              refine WR_ent rfl (rn_call (by kernel_rfl) rfl) (hop) ?_
              rintro _ w110 ⟨⟨x, pa, ca, D5, L5, rfl, hsub5, hD, hA, hd5, hon5, hl5⟩, hb110⟩
              replace hM := (hM.ll hb110 (fun b hb => hb)).weak hsub5
              replace hB := belLL hB hb110 (by omega)
              refine WR_val rfl (rn_move) ?_
              refine WR_val rfl (rn_extract rfl rfl) ?_
              refine WR_val rfl (rn_extract rfl rfl) ?_
              refine WR_val rfl (rn_extract rfl rfl) ?_
              refine WR_val rfl (rn_assign) ?_
              refine WR_val rfl (rn_assign) ?_
              refine WR_val rfl (rn_assign) ?_
              refine WR_nil ?_
              refine thenN ?_
              refine W_seq ?_
              refine W_seq ?_
              refine W_region ?_
              refine WR_val rfl (rn_move) ?_
              refine WR_val rfl (rn_neq rfl rfl) ?_
              refine WR_nil ?_
              refine thenN ?_
              refine W_fp rfl ((by omega)) ?_
              refine W_skip ?_
              refine thenN ?_
              refine W_seq ?_
              refine W_region ?_
              refine WR_val rfl (rn_assign) ?_
              refine WR_nil ?_
              refine thenN ?_
              refine W_seq ?_
              refine W_seq ?_
              refine W_region ?_
              refine WR_val rfl (rn_assign) ?_
              refine WR_nil ?_
              refine thenN ?_
              refine W_block ?_
              have haS := hao S4 hmem4
              have hS4l : S4.length ≤ 1000000 := by
                have h1 := atT_len hon4.inv.ok
                have h2 : atT T4 ≤ k := let ⟨_, _, _, _, e, _⟩ := hon4.inv.ex; e
                rw [← hS4, List.length_map]; omega
              refine W_loop (α := Nat × Bool) (0, false) (fun j => [(16, .int .i64 (j.1 : Nat)), (15, .bool j.2), (13, .slice pa S4.length ca), (10, .slice pm ML.length cm), (9, .int .i64 (i : Nat)), (6, .pointer (some ⟨g, 0, none⟩)), (0, .int .i64 (k : Nat)), (1, .slice (some ⟨gp, op, none⟩) n cp)])
                (fun j w' => j.1 ≤ ML.length ∧ (j.2 = true ↔ ∃ l, l < j.1 ∧ ML[l]? = some S4) ∧ Two (DZ g D5) None w.heap.size L5 w' ∧ AllL w.heap.size L5 w' pa S4 ∧ AllM w.heap.size L5 w' pm ML ∧ Below w.heap.size w w') (fun j => ML.length - j.1)
                ⟨rfl, rfl, rfl, rfl, rfl, rfl, rfl, rfl, rfl⟩ ⟨Nat.zero_le _, ⟨fun h => (nomatch h), fun ⟨l, hl, _⟩ => absurd hl (Nat.not_lt_zero _)⟩, hD, hA, hM, hB⟩ ?_
              clear hD hA hM hB
              rintro ⟨l, is⟩ f wl ⟨hll, his, hD, hA, hM, hB⟩
              dsimp only at *
              refine W_seq ?_
              refine W_seq ?_
              refine W_region ?_
              refine WR_val rfl (rn_move) ?_
              refine WR_val rfl (rn_move) ?_
              refine WR_val rfl (rn_lenSl (e := 51) (sz := 1) (by kernel_rfl) rfl rfl) ?_
              refine WR_val rfl (rn_lss rfl rfl) ?_
              refine WR_nil ?_
              refine thenN ?_
              refine W_ifp rfl (fun hlm => ?_) (fun hlm => ?_)
              ·
                refine W_skip ?_
                refine thenN ?_
                refine W_seq ?_
                refine W_block ?_
                refine W_region ?_
                refine WR_val rfl (rn_move) ?_
                refine WR_val rfl (rn_move) ?_
                refine WR_partb 123 rfl (fun hist => ?_) (fun hist => ?_)
                ·
                  refine WR_no rfl rfl ?_
                  refine WR_no rfl rfl ?_
                  refine WR_no rfl rfl ?_
                  refine WR_no rfl rfl ?_
                  refine WR_no rfl rfl ?_
                  refine WR_no rfl rfl ?_
                  refine WR_val rfl (rn_pick_t rfl) ?_
                  refine WR_val rfl (rn_assign) ?_
                  refine WR_nil ?_
                  refine blockN ?_
                  refine thenN ?_
                  refine W_region ?_
                  refine WR_val rfl (rn_move) ?_
                  refine WR_val rfl (rn_add rfl rfl (Coup.w64 (by omega))) ?_
                  refine WR_val rfl (rn_assign) ?_
                  refine WR_nil ?_
                  refine loopN ⟨(l + 1, true), by show _ - (l + 1) < _ - l; omega, ⟨by go_num, rfl, rfl, rfl, rfl, rfl, rfl, rfl, rfl⟩, by show l + 1 ≤ _; omega, ⟨fun _ => ?_, fun _ => rfl⟩, hD, hA, hM, hB⟩
                  have hobt := his.1 hist
                  obtain ⟨j, hj, hj2⟩ := hobt
                  exact ⟨j, by omega, hj2⟩
                ·
                  obtain ⟨vs, hvs, _, hel⟩ := hM.ex
                  have hobt : ∃ S3, ML[l]? = some S3 := ⟨_, List.getElem?_eq_getElem (by omega)⟩
                  obtain ⟨S3, hS3⟩ := hobt
                  have hobt := hel l S3 hS3
                  obtain ⟨q3, c3, hv3, hA3⟩ := hobt
                  have hobt := hvs.some (by omega)
                  obtain ⟨g3, o3, rfl, _⟩ := hobt
                  refine WR_yes rfl ?_
                  refine WR_val rfl (rn_move) ?_
                  refine WR_yes rfl ?_
                  refine WR_val rfl (rn_move) ?_
                  refine WR_yes rfl ?_
                  refine WR_val rfl (rn_move) ?_
                  refine WR_yes rfl ?_
                  refine WR_val rfl (rn_indexSl1 (e := 51) (by kernel_rfl) rfl rfl (l) (by omega) (by omega)) ?_
                  refine WR_yes rfl ?_
                  refine WR_val rfl (rn_load rfl (Ld.sl1 hvs (by kernel_rfl) hv3)) ?_
                  refine WR_yes rfl ?_
                  refine WR_ent rfl (rn_call (by kernel_rfl) rfl) (sameAll37 S4 S3 haS (hao S3 (List.mem_of_getElem? hS3)) pa q3 S4.length S3.length ca c3 wl hA.toR rfl hA3.toR rfl (by omega)) ?_
                  rintro _ w129 ⟨⟨bb, rfl, hbb⟩, hb129⟩
                  replace hD := hD.new hb129
                  replace hA := hA.new hb129
                  replace hM := hM.new hb129
                  replace hB := hB.acc hb129
                  refine WR_val rfl (rn_pick_f rfl) ?_
                  refine WR_val rfl (rn_assign) ?_
                  refine WR_nil ?_
                  refine blockN ?_
                  refine thenN ?_
                  refine W_region ?_
                  refine WR_val rfl (rn_move) ?_
                  refine WR_val rfl (rn_add rfl rfl (Coup.w64 (by omega))) ?_
                  refine WR_val rfl (rn_assign) ?_
                  refine WR_nil ?_
                  refine loopN ⟨(l + 1, bb), by show _ - (l + 1) < _ - l; omega, ⟨by go_num, rfl, rfl, rfl, rfl, rfl, rfl, rfl, rfl⟩, by show l + 1 ≤ _; omega, ⟨fun h => ?_, fun ⟨j, hj, hj2⟩ => ?_⟩, hD, hA, hM, hB⟩
                  · exact ⟨l, by omega, by rw [hS3, hbb.1 h]⟩
                  · by_cases hjl : j = l
                    · rw [hjl, hS3] at hj2
                      exact hbb.2 (Option.some.inj hj2).symm
                    · exact absurd (his.2 ⟨j, by omega, hj2⟩) (by rw [hist]; decide)
              ·
                have hlm2 : l = ML.length := by omega
                subst hlm2
                have hist : is = true := his.2 (by
                  have hobt := List.mem_iff_getElem?.1 hmem4
                  obtain ⟨j, hj⟩ := hobt
                  exact ⟨j, (List.getElem?_eq_some_iff.1 hj).1, hj⟩)
                subst hist
                refine W_exit ?_
                refine thenX ?_
                refine loopX ?_
                refine blockX ?_
                refine thenN ?_
                refine W_seq ?_
                refine W_seq ?_
                refine W_region ?_
                refine WR_val rfl (rn_move) ?_
                refine WR_val rfl (rn_not rfl) ?_
                refine WR_nil ?_
                refine thenN ?_
                refine W_fnb rfl ((by simp)) ?_
                refine W_skip ?_
                refine thenN ?_
                refine W_region ?_
                refine WR_val rfl (rn_move) ?_
                refine WR_val rfl (rn_assign) ?_
                refine WR_nil ?_
                refine blockN ?_
                refine thenN ?_
                refine W_region ?_
                refine WR_val rfl (rn_move) ?_
                refine WR_val rfl (rn_add rfl rfl (Coup.w64 (by omega))) ?_
                refine WR_val rfl (rn_assign) ?_
                refine WR_nil ?_
                refine loopN ⟨(i + 1, pa, S4, ca), by show n - (i + 1) < n - i; omega, ⟨by go_num, rfl, rfl, rfl, rfl, rfl⟩, by show i + 1 ≤ n; omega, ⟨L5, D5, T4, c4 + 1, s4, hD, hon5, hd5, by show c4 + 1 ≤ 2 + 40 * (i + 1); omega, hA, hS4, by omega⟩, hB⟩
          ·
            refine W_exit ?_
            refine thenX ?_
            refine loopX ?_
            refine blockX ?_
            refine thenN ?_
            refine W_seq ?_
            refine W_region ?_
            refine WR_ent rfl (rn_call (by kernel_rfl) rfl) (known7 wr) ?_
            rintro _ w134 ⟨rfl, hb134⟩
            replace hD := hD.new hb134
            replace hS := hS.new hb134
            replace hB := hB.acc hb134
            refine WR_val rfl (rn_assign) ?_
            refine WR_nil ?_
            refine thenN ?_
            refine W_ret ?_
            refine ret_ret [_] ⟨rfl, trivial⟩ ?_
            exact ⟨rfl, hB⟩
end Go.Proofs.Ytkkgahgpemepeaa
