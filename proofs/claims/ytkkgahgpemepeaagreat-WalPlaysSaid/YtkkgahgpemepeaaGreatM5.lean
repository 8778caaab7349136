import Derived.Test.YtkkgahgpemepeaaGreatM4
namespace Go.Proofs.YtkkgahgpemepeaaGreat
open Go Go.RowKit Coup
def secD (D : Dk) (n : Nat) : List Sec := (List.range n).map fun i => readD D i
theorem secD_succ (D : Dk) (n : Nat) : secD D (n + 1) = secD D n ++ [readD D n] := by simp [secD, List.range_succ]
theorem secD_len (D : Dk) (n : Nat) : (secD D n).length = n := by simp [secD]
theorem secD_get (D : Dk) {n i : Nat} (h : i < n) : (secD D n)[i]? = some (readD D i) := by rw [secD, List.getElem?_map, List.getElem?_range h]; rfl
theorem secD_ok {D : Dk} (h : DkOk D) {n : Nat} (hn : n ≤ D.V.length) : secsOk (secD D n) := fun s hs => by
  obtain ⟨i, hi, rfl⟩ := List.mem_map.1 hs
  have := List.mem_range.1 hi
  exact readD_len h (by omega)
section
variable {Y : World → List Nat → Prop} [Thing Y] {g lo : Nat} {L : List Nat} {D : Dk} {w : World}
set_option maxRecDepth 20000 in
set_option maxHeartbeats 1000000 in
theorem sectors31 (h : Two (DZ g D) Y lo L w) (n : Nat) (hn : n ≤ D.V.length) (hn2 : D.V.length ≤ 1000000) :
    Calls Tryz.prog 9 [.pointer (some ⟨g, 0, none⟩), .int .i64 (n : Int)].toArray w (Ret fun v w' => ownsAt w' w.heap.size 45 128 v n (bv (secD D n).flatten) ∧ Below w.heap.size w w') := by
  have hB := Below.refl w.heap.size w
  have hml : maxLen = 9223372036854775807 := by decide
  have hTw := fun w' (hb : Below w.heap.size w w') i => tRead (h.new hb) i
  have hDk := (tOk h).1
  have hfl : ∀ k, (secD D (k + 1)).flatten = (secD D k).flatten ++ readD D k := fun k => by rw [secD_succ, List.flatten_append]; simp
  have hf0 : (secD D 0).flatten = [] := rfl
  refine calls_W (fn := Tryz.f9) (rs := [.tmp 4]) (n := 25) Tryz.func9 rfl rfl Tryz.ntmps9 (by kernel_rfl) rfl ?_
  refine W_seq ?_
  refine W_region ?_
  refine WR_val rfl (rn_assign) ?_
  refine WR_nil ?_
  refine thenN ?_
  refine W_seq ?_
  refine W_region ?_
  refine WR_val rfl (rn_assign) ?_
  refine WR_nil ?_
  refine thenN ?_
  refine W_seq ?_
  refine W_seq ?_
  refine W_region ?_
  refine WR_val rfl (rn_assign) ?_
  refine WR_nil ?_
  refine thenN ?_
  refine W_block ?_
  refine W_loop (α := Nat × Value) (0, .slice none 0 0) (fun k => [(6, .int .i64 (k.1 : Nat)), (5, k.2), (0, .pointer (some ⟨g, 0, none⟩)), (1, .int .i64 (n : Nat))])
    (fun k w' => k.1 ≤ n ∧ ownsAt w' w.heap.size 45 128 k.2 k.1 (bv (secD D k.1).flatten) ∧ Below w.heap.size w w') (fun k => n - k.1) ⟨rfl, rfl, rfl, rfl, rfl⟩ ⟨Nat.zero_le _, ownsAt_nil _ _ _ _, hB⟩ ?_
  clear hB
  rintro ⟨i, u⟩ f wr ⟨hi, hu, hB⟩
  dsimp only at *
  have hin : inD D (i : Int) = decide (i < D.V.length) := by unfold inD; exact decide_eq_decide.2 ⟨fun h => by omega, fun h => ⟨by omega, by omega⟩⟩
  have hBr := Below.refl wr.heap.size wr
  refine W_seq ?_
  refine W_seq ?_
  refine W_region ?_
  refine WR_val rfl (rn_move) ?_
  refine WR_val rfl (rn_move) ?_
  refine WR_val rfl (rn_lss rfl rfl) ?_
  refine WR_nil ?_
  refine thenN ?_
  refine W_ifp rfl (fun hlt => ?_) (fun hlt => ?_)
  ·
    refine W_skip ?_
    refine thenN ?_
    refine W_seq ?_
    refine W_block ?_
    refine W_seq ?_
    have hrd := hTw wr hB (i : Int)
    have hif : i < n := by omega
    have hrl := readD_len hDk (i := i) (by omega)
    rw [hin, decide_eq_true (by omega), if_pos rfl, if_pos rfl, Int.toNat_natCast] at hrd
    have hfi := hfl i
    have hob : ∃ s, readD D i = s := ⟨_, rfl⟩
    obtain ⟨s, hs⟩ := hob
    rw [hs] at hrd hfi hrl
    have hbl : (bv s).length = 128 := by rw [bv_length]; exact hrl
    refine W_region ?_
    refine WR_val rfl (rn_move) ?_
    refine WR_val rfl (rn_move) ?_
    refine WR_ent rfl (rn_call (by kernel_rfl) rfl) (hrd) ?_
    rintro _ w17 ⟨rfl, hb17⟩
    replace hB := hB.acc hb17
    replace hBr := hBr.acc hb17
    refine WR_val rfl (rn_move) ?_
    refine WR_val rfl (rn_extract rfl rfl) ?_
    refine WR_val rfl (rn_extract rfl rfl) ?_
    refine WR_mk rfl (mk_alloc (List.replicate 128 (Value.int .u8 0)) (by kernel_rfl) (fun g7 w7 hg7 hr7 hb7 => ?_))
    have ge_hB_g7 := Nat.le_trans hB.size hg7
    have ge_hBr_g7 := Nat.le_trans hBr.size hg7
    replace hB := hB.acc hb7
    replace hBr := hBr.acc hb7
    refine WR_sk rfl (sk_storeA 128 (bv s) rfl rfl hr7 (by kernel_rfl) (by first | assumption | (simp; done) | (simp [bv_length, *]; done)) (by first | assumption | (simp; done) | (simp [bv_length, *]; done) | rfl) (by first | exact bv_one _ | assumption | (simp [Value.oneCell']; done)) (fun w901 hr7 ho901 => ?_))
    replace hB := ho901.below hB ge_hB_g7
    replace hBr := ho901.below hBr ge_hBr_g7
    refine WR_val rfl (rn_assign) ?_
    refine WR_nil ?_
    refine thenN ?_
    refine W_region ?_
    refine WR_val rfl (rn_move) ?_
    refine WR_val rfl (rn_load rfl (Ld.rowA (k := 128) hr7 (by kernel_rfl) (by kernel_rfl) (by first | (simp; done) | (simp [bv_length, *]; done) | assumption))) ?_
    refine WR_mk rfl (mk_one (e := 45) (.agg (bv s).toArray) (bv s) (List.replicate 128 (Value.int .u8 0)) 128 (by kernel_rfl) (by kernel_rfl) rfl rfl (by first | rfl | (simp; done) | (simp [bv_length, *]; done)) ⟨by decide, by decide⟩ (fun g22 w22 hg22 hr22 hb22 => ?_))
    have ge_hB_g22 := Nat.le_trans hB.size hg22
    have ge_hBr_g22 := Nat.le_trans hBr.size hg22
    have lt_g7_g22 : g7 < g22 := Nat.lt_of_lt_of_le hr7.lt hg22
    replace hr7 := hr7.new hb22
    replace hB := hB.acc hb22
    replace hBr := hBr.acc hb22
    have hs24 := hr22.slA (m := 1) (sz := 128) hbl (by omega)
    have hu1 : ∀ v ∈ bv s, v.oneCell' = true := bv_one _
    replace hu := hu.new hBr
    have hbz := hBr.size
    have hbz2 := hB.size
    have sz_hB_23 := hB.size
    refine WR_mk rfl (mk_append (e := 45) (sz := 128) (bytes := 128) (z := .agg (List.replicate 128 (Value.int .u8 0)).toArray) (by kernel_rfl) rfl (by kernel_rfl) rfl (by decide) rfl hu rfl hs24 hu1 (by unfold maxLen; omega) (by omega) (fun hm0 => by omega) (fun v23 w23 hv23 hgr23 hfr23 => ?_))
    replace hB := hB.own hu hgr23 (by omega)
    refine WR_val rfl (rn_assign) ?_
    refine WR_nil ?_
    refine blockN ?_
    refine thenN ?_
    refine W_region ?_
    refine WR_val rfl (rn_move) ?_
    refine WR_val rfl (rn_add rfl rfl (Coup.w64 (by omega))) ?_
    refine WR_val rfl (rn_assign) ?_
    refine WR_nil ?_
    rw [← bv_append, ← hfi] at hv23
    refine loopN ⟨(i + 1, v23), by show n - (i + 1) < n - i; omega, ⟨by go_num, rfl, rfl, rfl, rfl⟩, by show i + 1 ≤ n; omega, hv23, hB⟩
  ·
    have hin : i = n := by omega
    subst hin
    refine W_exit ?_
    refine thenX ?_
    refine loopX ?_
    refine blockX ?_
    refine thenN ?_
    refine W_seq ?_
    refine W_region ?_
    refine WR_val rfl (rn_move) ?_
    refine WR_val rfl (rn_assign) ?_
    refine WR_nil ?_
    refine thenN ?_
    refine W_ret ?_
    refine ret_ret [_] ⟨rfl, trivial⟩ ?_
    exact ⟨hu, hB⟩
end
set_option maxRecDepth 20000 in
set_option maxHeartbeats 1000000 in
theorem same33 (A B : List Sec) (hA : secsOk A) (hB2 : secsOk B) (p q : Option Addr) (n m c d : Nat) (w : World) (h : SlAt w p n 128 (bv A.flatten)) (k : SlAt w q m 128 (bv B.flatten)) (hn : A.length = n) (hm : B.length = m) (hn2 : n ≤ 1000000) :
    Calls Tryz.prog 12 [.slice p n c, .slice q m d].toArray w (Ret fun v w' => (∃ b, v = .bool b ∧ (b = true ↔ A = B)) ∧ Below w.heap.size w w') := by
  have hB := Below.refl w.heap.size w
  refine calls_W (fn := Tryz.f12) (rs := [.tmp 4]) (n := 26) Tryz.func12 rfl rfl Tryz.ntmps12 (by kernel_rfl) rfl ?_
  refine W_seq ?_
  refine W_region ?_
  refine WR_val rfl (rn_assign) ?_
  refine WR_nil ?_
  refine thenN ?_
  refine W_seq ?_
  refine W_seq ?_
  refine W_region ?_
  refine WR_val rfl (rn_move) ?_
  refine WR_val rfl (rn_lenSl (e := 45) (sz := 128) (by kernel_rfl) rfl rfl) ?_
  refine WR_val rfl (rn_move) ?_
  refine WR_val rfl (rn_lenSl (e := 45) (sz := 128) (by kernel_rfl) rfl rfl) ?_
  refine WR_val rfl (rn_neq rfl rfl) ?_
  refine WR_nil ?_
  refine thenN ?_
  refine W_ifp rfl (fun hne => ?_) (fun hne => ?_)
  ·
    refine W_seq ?_
    refine W_region ?_
    refine WR_val rfl (rn_assign) ?_
    refine WR_nil ?_
    refine thenN ?_
    refine W_ret ?_
    refine thenR ?_
    refine ret_ret [_] ⟨rfl, trivial⟩ ?_
    exact ⟨⟨false, rfl, by constructor; · intro h; cases h
                           · intro h; rw [h] at hn; omega⟩, hB⟩
  ·
    have hnm : n = m := by omega
    subst hnm
    refine W_skip ?_
    refine thenN ?_
    refine W_seq ?_
    refine W_seq ?_
    refine W_region ?_
    refine WR_val rfl (rn_assign) ?_
    refine WR_nil ?_
    refine thenN ?_
    refine W_block ?_
    refine W_loop (α := Nat) 0 (fun i => [(5, .int .i64 (i : Nat)), (0, .slice p n c), (1, .slice q n d)]) (fun i w' => i ≤ n ∧ (∀ j, j < i → A[j]? = B[j]?) ∧ Below w.heap.size w w') (fun i => n - i) ⟨rfl, rfl, rfl, rfl⟩ ⟨Nat.zero_le _, (fun j hj => by omega), hB⟩ ?_
    clear hB
    rintro i f wr ⟨hi, hall, hB⟩
    refine W_seq ?_
    refine W_seq ?_
    refine W_region ?_
    refine WR_val rfl (rn_move) ?_
    refine WR_val rfl (rn_move) ?_
    refine WR_val rfl (rn_lenSl (e := 45) (sz := 128) (by kernel_rfl) rfl rfl) ?_
    refine WR_val rfl (rn_lss rfl rfl) ?_
    refine WR_nil ?_
    refine thenN ?_
    refine W_ifp rfl (fun hlt => ?_) (fun hlt => ?_)
    ·
      refine W_skip ?_
      refine thenN ?_
      refine W_seq ?_
      refine W_block ?_
      refine W_seq ?_
      have hp := h.below hB (Nat.le_refl _)
      have hq := k.below hB (Nat.le_refl _)
      have hobt := hp.some (by omega)
      obtain ⟨gp, op, rfl, hgp⟩ := hobt
      have hobt := hq.some (by omega)
      obtain ⟨gq, oq, rfl, hgq⟩ := hobt
      have hobt : ∃ a, A[i]? = some a := ⟨_, List.getElem?_eq_getElem (by omega)⟩
      obtain ⟨a, ha⟩ := hobt
      have hobt : ∃ b, B[i]? = some b := ⟨_, List.getElem?_eq_getElem (by omega)⟩
      obtain ⟨b, hb⟩ := hobt
      have hal := hA a (List.mem_of_getElem? ha)
      have hbl := hB2 b (List.mem_of_getElem? hb)
      refine W_draw' [] (by kernel_rfl) ?_
      intro w901 hb901 hS901
      replace hp := hp.new hb901
      replace hq := hq.new hb901
      replace hB := hB.acc hb901
      have hp_d901 := hp
      have hq_d901 := hq
      have hB_d901 := hB
      refine WA_take 0 (by kernel_rfl) rfl (fun _ _ => rn_move) ?_
      refine WA_take 1 (by kernel_rfl) rfl (fun _ _ => rn_move) ?_
      refine WA_take 2 (by kernel_rfl) rfl (fun _ _ => rn_indexSl (e := 45) (sz := 128) (by kernel_rfl) rfl rfl (i) (by omega) (by omega)) ?_
      refine WA_take 3 (by kernel_rfl) rfl (fun w' hS' => rn_load rfl (ld_sec (hp_d901.kpd hS' (by first | (simp; done) | (simp; omega) | (simp [*]; done) | exact notLL (Or.inl (by omega)) | exact notLL (Or.inr (by simp)) | exact fun g hm => Nat.le_trans (by omega) (inLL hm).1 | (intro b o e; cases e; exact notLL (Or.inl (by omega))) | (intro b hm; have := (hu.lt b (Option.mem_toList.1 hm)).1; omega) | (intro b o e; cases e; intro hm; have := (hu.lt _ (Option.mem_toList.1 hm)).1; omega))) hA ha)) ?_
      refine WA_take 4 (by kernel_rfl) rfl (fun _ _ => rn_move) ?_
      refine WA_take 5 (by kernel_rfl) rfl (fun _ _ => rn_move) ?_
      refine WA_take 6 (by kernel_rfl) rfl (fun _ _ => rn_indexSl (e := 45) (sz := 128) (by kernel_rfl) rfl rfl (i) (by omega) (by omega)) ?_
      refine WA_take 7 (by kernel_rfl) rfl (fun w' hS' => rn_load rfl (ld_sec (hq_d901.kpd hS' (by first | (simp; done) | (simp; omega) | (simp [*]; done) | exact notLL (Or.inl (by omega)) | exact notLL (Or.inr (by simp)) | exact fun g hm => Nat.le_trans (by omega) (inLL hm).1 | (intro b o e; cases e; exact notLL (Or.inl (by omega))) | (intro b hm; have := (hu.lt b (Option.mem_toList.1 hm)).1; omega) | (intro b o e; cases e; intro hm; have := (hu.lt _ (Option.mem_toList.1 hm)).1; omega))) hB2 hb)) ?_
      refine WA_take 8 (by kernel_rfl) rfl (fun _ _ => rn_neqA (n := 128) (by kernel_rfl) rfl rfl hal hbl) ?_
      refine WA_done (by kernel_rfl) ?_
      refine thenN ?_
      refine W_ifn rfl (fun hd => ?_) (fun hd => ?_)
      ·
        refine W_seq ?_
        refine W_region ?_
        refine WR_val rfl (rn_assign) ?_
        refine WR_nil ?_
        refine thenN ?_
        refine W_ret ?_
        refine blockR ?_
        refine thenR ?_
        refine loopR ?_
        refine blockR ?_
        refine thenR ?_
        refine ret_ret [_] ⟨rfl, trivial⟩ ?_
        exact ⟨⟨false, rfl, by constructor; · intro h; cases h
                               · intro h; subst h; rw [ha] at hb; cases hb; exact absurd rfl hd⟩, hB⟩
      ·
        have hab : a = b := by simpa using hd
        refine W_skip ?_
        refine blockN ?_
        refine thenN ?_
        refine W_region ?_
        refine WR_val rfl (rn_move) ?_
        refine WR_val rfl (rn_add rfl rfl (Coup.w64 (by omega))) ?_
        refine WR_val rfl (rn_assign) ?_
        refine WR_nil ?_
        refine loopN ⟨i + 1, by omega, ⟨by go_num, rfl, rfl, rfl⟩, by omega, (fun j hj => ?_), hB⟩
        by_cases hji : j = i
        · rw [hji, ha, hb, hab]
        · exact hall j (by omega)
    ·
      have hin : i = n := by omega
      subst hin
      refine W_exit ?_
      refine thenX ?_
      refine loopX ?_
      refine blockX ?_
      refine thenN ?_
      refine W_seq ?_
      refine W_region ?_
      refine WR_val rfl (rn_assign) ?_
      refine WR_nil ?_
      refine thenN ?_
      refine W_ret ?_
      refine ret_ret [_] ⟨rfl, trivial⟩ ?_
      refine ⟨⟨true, rfl, by constructor; · intro _; exact List.ext_getElem? fun j => (by
                                              by_cases hj : j < i
                                              · exact hall j hj
                                              · rw [List.getElem?_eq_none (by omega), List.getElem?_eq_none (by omega)])
                             · intro _; rfl⟩, hB⟩
end Go.Proofs.YtkkgahgpemepeaaGreat
namespace Go.Proofs.YtkkgahgpemepeaaGreat
open Go Go.RowKit Coup
theorem ofR_len {b : List UInt8} {r : Rec} (h : ofR b = some r) : b.length = 516 * r.length := by
  by_cases h5 : b.length % 516 = 0
  · have hb : b.length = 516 * (b.length / 516) := by omega
    have he := ofR_eq b _ hb
    rw [h] at he
    split at he
    · have hr := Option.some.inj he
      rw [hr, ofL_len]; exact hb
    · cases he
  · rw [ofR, ofOk, decide_eq_false h5] at h
    cases h
theorem recs_stop {s c k m : Nat} {X : List UInt8} (h : joinIs X m = false) : recsL s c k (rowsL m X m) = [] := by rw [rowsL_zero h]; rfl
theorem recs_bad {s c k m : Nat} {X : List UInt8} (hj : joinIs X m = true) (h : okRow s c k ⟨hCount (halfAt X 0), hNum (halfAt X 0), joinB X⟩ = none) : recsL s c k (rowsL m X m) = [] := by
  cases m with
  | zero => rfl
  | succ m => rw [rowsL, if_pos hj, recsL_none h]
theorem recs_next {s c k m : Nat} {X : List UInt8} {r : Rec} (hj : joinIs X m = true) (hl : X.length = m * 128) (h : okRow s c k ⟨hCount (halfAt X 0), hNum (halfAt X 0), joinB X⟩ = some r) :
    recsL s c k (rowsL m X m) = r :: recsL s c (k + 1) (rowsL (m - needN (joinB X).length) (X.drop (128 * needN (joinB X).length)) (m - needN (joinB X).length)) := by
  obtain ⟨h0, _, h3⟩ := join_facts hj
  obtain ⟨h4, h5⟩ := h3 hl
  obtain ⟨m, rfl⟩ : ∃ z, m = z + 1 := ⟨m - 1, by omega⟩
  rw [rowsL, if_pos hj, recsL_some h, rowsL_fuel m _ _ _ (by omega) (Nat.le_refl _) (by rw [List.length_drop, hl]; omega)]
def rlV (c s n : Nat) (v : Value) (at_ : Nat) : List Value := [.int .u64 (c : Int), .int .u64 (s : Int), .int .i64 (n : Int), v, .int .i64 (at_ : Int)]
structure SaysAt (w : World) (y c s n : Nat) (p : Option Addr) (cp : Nat) (S : List Rec) (C : List Nat) : Prop where
  row : row w y (rlV c s n (.slice p S.length cp) (atS S)) 43
  niC : y ∉ C
  all : AllZ p S w C
theorem rof16c (b : List UInt8) (p : Option Addr) (n cp : Nat) (w : World) (h : SlAt w p n 1 (bv b)) (hcp : n ≤ cp) (hn2 : n ≤ 1000000) :
    Calls Tryz.prog 47 [.slice p n cp].toArray w (Ret fun v w' => (∃ x k c e r, v = .tuple #[.slice x k c, .bool e] ∧ k = r.length ∧ SlAt w' x k 513 (chsV r) ∧ (∀ b o, x = some ⟨b, o, none⟩ → w.heap.size ≤ b) ∧ ((ofR b = some r ∧ e = true) ∨ (ofR b = none ∧ r = [] ∧ e = false))) ∧ Below w.heap.size w w') :=
  (rof16 b p n cp w h hcp hn2).to fun v w' ⟨hh, hb⟩ => ⟨hh.elim (fun ⟨r, x, c, h1, h2, h4, h5⟩ => ⟨_, _, c, true, r, h2, rfl, h4, h5, .inl ⟨h1, rfl⟩⟩) fun ⟨h1, h2⟩ => ⟨none, 0, 0, false, [], h2, rfl, ⟨rfl, by decide, fun h0 => absurd h0 (by decide)⟩, fun b o e => (nomatch e), .inr ⟨h1, rfl, rfl⟩⟩, hb⟩
structure RlS (w : World) (lo : Nat) (o : Option Nat) (vs : List Value) (T : List Rec) : Prop where
  len : vs.length = T.length
  at_ : ∀ (i : Nat) l, T[i]? = some l → ∃ q c, vs[i]? = some (.slice q l.length c) ∧ SlAt w q l.length 513 (chsV l) ∧ 0 < l.length ∧ ∀ b off, q = some ⟨b, off, none⟩ → lo ≤ b ∧ b < w.heap.size ∧ some b ≠ o
namespace RlS
variable {w w' : World} {lo : Nat} {o : Option Nat} {vs : List Value} {T : List Rec}
theorem nil (w : World) (lo : Nat) (o : Option Nat) : RlS w lo o [] [] := ⟨rfl, fun i l h => by simp at h⟩
theorem kpd {M : List Nat} (h : RlS w lo o vs T) (k : Kp M w w') (hM : ∀ b ∈ M, b < lo ∨ w.heap.size ≤ b ∨ o = some b) : RlS w' lo o vs T := ⟨h.len, fun i l hl => by
  obtain ⟨q, c, e, h2, h0, h3⟩ := h.at_ i l hl
  refine ⟨q, c, e, h2.kpd k fun b off e hm => ?_, h0, fun b off e => ⟨(h3 b off e).1, Nat.lt_of_lt_of_le (h3 b off e).2.1 k.size, (h3 b off e).2.2⟩⟩
  obtain ⟨a1, a2, a3⟩ := h3 b off e
  rcases hM b hm with x | x | x
  · omega
  · omega
  · exact a3 x.symm⟩
theorem new (h : RlS w lo o vs T) (hb : Below w.heap.size w w') : RlS w' lo o vs T := h.kpd (M := []) (Kp.of_below hb) (by simp)
theorem only {g : Nat} (h : RlS w lo o vs T) (ho : Only g w w') (hg : g < lo ∨ w.heap.size ≤ g) : RlS w' lo o vs T := h.kpd (Kp.of_only ho) fun b hb => by rw [List.mem_singleton.1 hb]; exact hg.imp id Or.inl
theorem grow {v v' : Value} (h : RlS w lo v.ownBlock vs T) (hg : w.grownBy w' v.ownBlock) (hf : ∀ g, v'.ownBlock = some g → v.ownBlock = some g ∨ w.heap.size ≤ g) : RlS w' lo v'.ownBlock vs T :=
  let h' := h.kpd (Kp.of_grown hg) fun b hb => .inr (.inr (Option.mem_toList.1 hb))
  ⟨h.len, fun i l hl => by
    obtain ⟨q, c, e, h2, h0, h3⟩ := h'.at_ i l hl
    obtain ⟨q1, c1, e1, _, _, h31⟩ := h.at_ i l hl
    rw [e1] at e
    cases e
    refine ⟨q, _, e1, h2, h0, fun b off e => ⟨(h3 b off e).1, (h3 b off e).2.1, fun hb => ?_⟩⟩
    rcases hf b hb.symm with x | x
    · exact (h3 b off e).2.2 x.symm
    · have := (h31 b off e).2.1; omega⟩
theorem snoc {q : Option Addr} {c : Nat} {l : Rec} (h : RlS w lo o vs T) (h2 : SlAt w q l.length 513 (chsV l)) (h0 : 0 < l.length) (h3 : ∀ b off, q = some ⟨b, off, none⟩ → lo ≤ b ∧ b < w.heap.size ∧ some b ≠ o) : RlS w lo o (vs ++ [.slice q l.length c]) (T ++ [l]) :=
  ⟨by simp [h.len], fun i l' hl => by
    by_cases hi : i < T.length
    · rw [List.getElem?_append_left hi] at hl
      obtain ⟨q', c', e1, e2⟩ := h.at_ i l' hl
      exact ⟨q', c', by rw [List.getElem?_append_left (by rw [h.len]; exact hi)]; exact e1, e2⟩
    · have hi' : i = T.length := by
        have := (List.getElem?_eq_some_iff.1 hl).1
        simp at this; omega
      subst hi'
      simp at hl
      subst hl
      exact ⟨q, c, by rw [← h.len]; simp, h2, h0, h3⟩⟩
theorem thing {base e lo' : Nat} {p : Option Addr} {c : Nat} (h : RlS w lo (Value.ownBlock (.slice p T.length c)) vs T) (hv : ownsAt w base e 1 (.slice p T.length c) T.length vs) (hlo : lo ≤ base) (hlo' : lo' ≤ lo) : AllZ p T w (List.range' lo' (w.heap.size - lo')) := by
  have hC : ∀ b, lo ≤ b → b < w.heap.size → b ∈ List.range' lo' (w.heap.size - lo') := fun b h1 h2 => List.mem_range'_1.2 ⟨by omega, by omega⟩
  refine ⟨fun b hb => by have := List.mem_range'_1.1 hb; omega, vs, hv.sl, fun h0 b o e => ?_, fun i r hi => ?_⟩
  · subst e
    have := hv.lt b rfl
    exact hC b (by omega) this.2
  · obtain ⟨q, c, e, h2, h0, h3⟩ := h.at_ i r hi
    obtain ⟨b, off, rfl, _⟩ := h2.some (by omega)
    obtain ⟨a1, a2, _⟩ := h3 b off rfl
    exact ⟨b, off, c, e, h2, hC b a1 a2⟩
end RlS
set_option maxRecDepth 20000 in
set_option maxHeartbeats 2000000 in
theorem rsays13 (s0 : Sec) (SL : List Sec) (hok : secsOk (s0 :: SL)) (n : Nat) (hn : SL.length = n) (hn2 : n ≤ 4000) (p : Option Addr) (N cp : Nat) (hN : N = n + 1) (hcp : N ≤ cp) (w : World) (h : SlAt w p N 128 (bv (s0 :: SL).flatten)) :
    Calls Tryz.prog 13 [.slice p N cp].toArray w (Ret fun v w' => (∃ vy e, v = .tuple #[vy, .bool e] ∧ ((e = false ∧ hdIs s0 = false ∧ vy = .pointer none) ∨ (e = true ∧ hdIs s0 = true ∧ ∃ y pr cr C, vy = .pointer (some ⟨y, 0, none⟩) ∧
      SaysAt w' y (hdC s0) (hdS s0) n pr cr (recsL (hdS s0) (hdC s0) 0 (rowsL n SL.flatten n)) C ∧ w.heap.size ≤ y ∧ ∀ b ∈ C, w.heap.size ≤ b))) ∧ Below w.heap.size w w') := by
  have hB := Below.refl w.heap.size w
  have hml : maxLen = 9223372036854775807 := by decide
  have hs0 : s0.length = 128 := hok s0 (List.mem_cons_self ..)
  have hh := fun w' => rheadOf45 s0 w' hs0
  have hfl : (s0 :: SL).flatten = s0 ++ SL.flatten := List.flatten_cons ..
  have hSl : SL.flatten.length = 128 * n := by rw [flat_len (fun x hx => hok x (List.mem_cons_of_mem _ hx)), hn, Nat.mul_comm]
  have hld := fun g o w' (hs : SlAt w' (some ⟨g, o, none⟩) N 128 (bv (s0 :: SL).flatten)) => ld_sec hs hok (i := 0) rfl
  obtain ⟨gp, op, rfl, hgp⟩ := h.some (by omega)
  refine calls_W (fn := Tryz.f13) (rs := [.tmp 2, .tmp 3]) (n := 96) Tryz.func13 rfl rfl Tryz.ntmps13 (by kernel_rfl) rfl ?_
  refine W_seq ?_
  refine W_region ?_
  refine WR_val rfl (rn_assign) ?_
  refine WR_val rfl (rn_assign) ?_
  refine WR_nil ?_
  refine thenN ?_
  refine W_seq ?_
  refine W_region ?_
  refine WR_val rfl (rn_move) ?_
  refine WR_val rfl (rn_indexSl (e := 45) (sz := 128) (by kernel_rfl) rfl rfl (0) (by omega) (by omega)) ?_
  refine WR_val rfl (rn_load rfl (hld _ _ _ h)) ?_
  refine WR_ent rfl (rn_call (by kernel_rfl) rfl) (hh w) ?_
  rintro _ w18 ⟨rfl, hb18⟩
  replace hB := hB.acc hb18
  refine WR_val rfl (rn_move) ?_
  refine WR_val rfl (rn_extract rfl rfl) ?_
  refine WR_val rfl (rn_extract rfl rfl) ?_
  refine WR_val rfl (rn_extract rfl rfl) ?_
  refine WR_val rfl (rn_assign) ?_
  refine WR_val rfl (rn_assign) ?_
  refine WR_val rfl (rn_assign) ?_
  refine WR_nil ?_
  refine thenN ?_
  refine W_seq ?_
  refine W_seq ?_
  refine W_region ?_
  refine WR_val rfl (rn_move) ?_
  refine WR_val rfl (rn_not rfl) ?_
  refine WR_nil ?_
  refine thenN ?_
  refine W_ifnb rfl (fun hf => ?_) (fun hf => ?_)
  ·
    refine W_seq ?_
    refine W_region ?_
    refine WR_val rfl (rn_assign) ?_
    refine WR_val rfl (rn_assign) ?_
    refine WR_nil ?_
    refine thenN ?_
    refine W_ret ?_
    refine thenR ?_
    refine ret_ret [_, _] ⟨rfl, rfl, trivial⟩ ?_
    have hf2 : hdIs s0 = false := by cases hx : hdIs s0 with | false => rfl | true => rw [hx] at hf; cases hf
    exact ⟨⟨_, _, rfl, .inl ⟨rfl, hf2, rfl⟩⟩, hB⟩
  ·
    have hf2 : hdIs s0 = true := hf
    have hobt : ∃ C, hdC s0 = C := ⟨_, rfl⟩
    obtain ⟨C, hC⟩ := hobt
    have hobt : ∃ S, hdS s0 = S := ⟨_, rfl⟩
    obtain ⟨S, hS⟩ := hobt
    rw [hC, hS]
    have hnn : (N : Int) - 1 = (n : Int) := by omega
    refine W_skip ?_
    refine thenN ?_
    refine W_seq ?_
    refine W_region ?_
    refine WR_val rfl (rn_move) ?_
    refine WR_val rfl (rn_move) ?_
    refine WR_val rfl (rn_move) ?_
    refine WR_val rfl (rn_lenSl (e := 45) (sz := 128) (by kernel_rfl) rfl rfl) ?_
    refine WR_val rfl (rn_sub rfl rfl (Coup.w64 (by omega))) ?_
    refine WR_val rfl (rn_built3 (.int .u64 C) (.int .u64 S) (.int .i64 ((N : Int) - 1)) [.int .u64 C, .int .u64 S, .int .i64 ((N : Int) - 1), .slice none 0 0, .int .i64 0] (by rw [← hC]; rfl) (by rw [← hS]; rfl) rfl (by kernel_rfl)) ?_
    refine WR_mk rfl (mk_box ([.int .u64 C, .int .u64 S, .int .i64 ((N : Int) - 1), .slice none 0 0, .int .i64 0]) rfl (fun g30 w30 hg30 hr30 hb30 => ?_))
    have ge_hB_g30 := Nat.le_trans hB.size hg30
    replace hB := hB.acc hb30
    refine WR_val rfl (rn_assign) ?_
    refine WR_nil ?_
    refine thenN ?_
    refine W_block ?_
    rw [hnn] at hr30
    have hlo : w.heap.size ≤ w30.heap.size := hB.size
    have hy0 := hr30.lt
    refine W_loop (α := List Rec) [] (fun _ => [(7, .pointer (some ⟨g30, 0, none⟩)), (0, .slice (some ⟨gp, op, none⟩) N cp), (4, .int .u64 C), (5, .int .u64 S)])
      (fun T w' => atS T ≤ n ∧ T.length ≤ atS T ∧ recsL S C 0 (rowsL n SL.flatten n) = T ++ recsL S C T.length (rowsL (n - atS T) (SL.flatten.drop (128 * atS T)) (n - atS T)) ∧
        (∃ u vs, row w' g30 [.int .u64 C, .int .u64 S, .int .i64 (n : Int), u, .int .i64 ((atS T : Nat) : Int)] 43 ∧ ownsAt w' w30.heap.size 60 1 u T.length vs ∧ RlS w' w30.heap.size u.ownBlock vs T) ∧ Below w.heap.size w w' ∧ w30.heap.size ≤ w'.heap.size) (fun T => n - atS T)
      ⟨rfl, rfl, rfl, rfl, rfl⟩ ⟨Nat.zero_le _, Nat.le_refl _, rfl, ⟨.slice none 0 0, [], hr30, ownsAt_nil _ _ _ _, RlS.nil _ _ _⟩, hB, Nat.le_refl _⟩ ?_
    clear hr30 hB
    rintro T f wr ⟨hat, hTl, hrec, ⟨u, vs, hry, hu, hrl⟩, hB, hsw⟩
    obtain ⟨pr, cr, rfl⟩ := hu.form
    have hobt : ∃ lo, w30.heap.size = lo := ⟨_, rfl⟩
    obtain ⟨lo, hlo2⟩ := hobt
    rw [hlo2] at hu hrl hsw hy0 hlo
    have hxl : (SL.flatten.drop (128 * atS T)).length = (n - atS T) * 128 := by rw [List.length_drop, hSl]; omega
    have hdz := fun w' (hs : SlAt w' (some ⟨gp, op, none⟩) N 128 (bv (s0 :: SL).flatten)) => sl_dropZ (j := 1 + atS T) (c := cp) hs (by omega) hcp
    have hde : (bv (s0 :: SL).flatten).drop ((1 + atS T) * 128) = bv (SL.flatten.drop (128 * atS T)) := by
      rw [← bv_drop, hfl, show (1 + atS T) * 128 = s0.length + 128 * atS T by omega, List.drop_append, List.drop_of_length_le (l := s0) (by omega), List.nil_append, Nat.add_sub_cancel_left]
    rw [hde] at hdz
    have hm' : N - (1 + atS T) = n - atS T := by omega
    have hobt : ∃ X, SL.flatten.drop (128 * atS T) = X := ⟨_, rfl⟩
    obtain ⟨X, hX⟩ := hobt
    rw [hX] at hdz hxl hrec
    have hobt : ∃ RR, recsL S C 0 (rowsL n SL.flatten n) = RR := ⟨_, rfl⟩
    obtain ⟨RR, hRR⟩ := hobt
    rw [hRR] at hrec
    have hend : recsL S C T.length (rowsL (n - atS T) X (n - atS T)) = [] → RR = T := fun e => by rw [hrec, e, List.append_nil]
    have hout : ∀ w', Below wr.heap.size wr w' → RR = T → row w' g30 [.int .u64 C, .int .u64 S, .int .i64 (n : Int), .slice pr T.length cr, .int .i64 ((atS T : Nat) : Int)] 43 → ownsAt w' lo 60 1 (.slice pr T.length cr) T.length vs → RlS w' lo (Value.ownBlock (.slice pr T.length cr)) vs T → SaysAt w' g30 C S n pr cr (recsL S C 0 (rowsL n SL.flatten n)) (List.range' lo (w'.heap.size - lo)) ∧ w.heap.size ≤ g30 ∧ ∀ b ∈ List.range' lo (w'.heap.size - lo), w.heap.size ≤ b := fun w' hb e h1 h2 h3 => by
      rw [hRR, e]
      exact ⟨⟨h1, fun hm => by have := (List.mem_range'_1.1 hm).1; omega, RlS.thing h3 h2 (Nat.le_refl _) (Nat.le_refl _)⟩, ge_hB_g30, fun b hb => by have := (List.mem_range'_1.1 hb).1; omega⟩
    have hBr := Below.refl wr.heap.size wr
    refine W_block ?_
    refine W_seq ?_
    refine W_region ?_
    refine WR_val rfl (rn_move) ?_
    refine WR_val rfl (rn_move) ?_
    refine WR_val rfl (rn_nilCheckP rfl) ?_
    refine WR_val rfl (rn_fieldAddr (off := 4) (by kernel_rfl) rfl) ?_
    refine WR_val rfl (rn_load rfl (Ld.row1 hry (by kernel_rfl) rfl)) ?_
    refine WR_val rfl (rn_add rfl rfl (Coup.w64 (by omega))) ?_
    refine WR_val rfl (rn_sliceSl (e := 45) (sz := 128) (1 + atS T) N cp (by kernel_rfl) rfl ⟨_, _, rfl, by omega⟩ rfl rfl (by simp) (by omega) (by omega) (by omega)) ?_
    refine WR_ent rfl (rn_call (by kernel_rfl) rfl) (joinRef _ _ _ X wr (hdz wr (h.below hB (Nat.le_refl _))) (by omega)) ?_
    rintro _ w39 ⟨⟨c0, nn0, sp, kk, cq, mm, e, b, rfl, hkb, hsb, hkc, he, hyes⟩, hb39⟩
    replace hry := hry.new hb39
    replace hB := hB.acc hb39
    replace hBr := hBr.acc hb39
    have hB9 := Below.refl w39.heap.size w39
    refine WR_val rfl (rn_move) ?_
    refine WR_val rfl (rn_extract rfl rfl) ?_
    refine WR_val rfl (rn_extract rfl rfl) ?_
    refine WR_val rfl (rn_extract rfl rfl) ?_
    refine WR_val rfl (rn_extract rfl rfl) ?_
    refine WR_mk rfl (mk_alloc ([.int .u64 0, .int .i64 0]) (by kernel_rfl) (fun g8 w8 hg8 hr8 hb8 => ?_))
    have ge_hB_g8 := Nat.le_trans hB.size hg8
    have ge_hBr_g8 := Nat.le_trans hBr.size hg8
    have ge_hB9_g8 := Nat.le_trans hB9.size hg8
    have lt_g30_g8 : g30 < g8 := Nat.lt_of_lt_of_le hry.lt hg8
    replace hry := hry.new hb8
    replace hB := hB.acc hb8
    replace hBr := hBr.acc hb8
    replace hB9 := hB9.acc hb8
    refine WR_sk rfl (sk_storeA 2 ([.int .u64 (c0 : Int), .int .i64 (nn0 : Int)]) rfl rfl hr8 (by kernel_rfl) (by first | assumption | (simp; done) | (simp [bv_length, *]; done)) (by first | assumption | (simp; done) | (simp [bv_length, *]; done) | rfl) (by first | exact bv_one _ | assumption | (simp [Value.oneCell']; done)) (fun w901 hr8 ho901 => ?_))
    replace hry := hry.only ho901 (Nat.ne_of_lt lt_g30_g8)
    replace hB := ho901.below hB ge_hB_g8
    replace hBr := ho901.below hBr ge_hBr_g8
    replace hB9 := ho901.below hB9 ge_hB9_g8
    refine WR_val rfl (rn_assign) ?_
    refine WR_val rfl (rn_assign) ?_
    refine WR_val rfl (rn_assign) ?_
    refine WR_nil ?_
    refine thenN ?_
    refine W_seq ?_
    refine W_seq ?_
    refine W_draw' [] (by kernel_rfl) ?_
    intro w902 hb902 hS902
    replace hry := hry.new hb902
    replace hr8 := hr8.new hb902
    replace hB := hB.acc hb902
    replace hBr := hBr.acc hb902
    replace hB9 := hB9.acc hb902
    have hry_d902 := hry
    have hr8_d902 := hr8
    have hB_d902 := hB
    have hBr_d902 := hBr
    have hB9_d902 := hB9
    refine WA_take 0 (by kernel_rfl) rfl (fun _ _ => rn_move) ?_
    refine WA_take 1 (by kernel_rfl) rfl (fun _ _ => rn_not rfl) ?_
    refine WA_take 2 (by kernel_rfl) rfl (fun _ _ => rn_move) ?_
    refine WA_partnb 46 rfl (fun hne => ?_) (fun hne => ?_)
    ·
      refine WA_skip 3 (by kernel_rfl) rfl ?_
      refine WA_skip 4 (by kernel_rfl) rfl ?_
      refine WA_skip 5 (by kernel_rfl) rfl ?_
      refine WA_skip 6 (by kernel_rfl) rfl ?_
      refine WA_skip 7 (by kernel_rfl) rfl ?_
      refine WA_skip 8 (by kernel_rfl) rfl ?_
      refine WA_skip 9 (by kernel_rfl) rfl ?_
      refine WA_skip 10 (by kernel_rfl) rfl ?_
      refine WA_take 11 (by kernel_rfl) rfl (fun _ _ => rn_pick_t rfl) ?_
      refine WA_take 12 (by kernel_rfl) rfl (fun _ _ => rn_move) ?_
      refine WA_skip 13 (by kernel_rfl) rfl ?_
      refine WA_skip 14 (by kernel_rfl) rfl ?_
      refine WA_skip 15 (by kernel_rfl) rfl ?_
      refine WA_skip 16 (by kernel_rfl) rfl ?_
      refine WA_take 17 (by kernel_rfl) rfl (fun _ _ => rn_pick_t rfl) ?_
      refine WA_take 18 (by kernel_rfl) rfl (fun _ _ => rn_move) ?_
      refine WA_skip 19 (by kernel_rfl) rfl ?_
      refine WA_skip 20 (by kernel_rfl) rfl ?_
      refine WA_skip 21 (by kernel_rfl) rfl ?_
      refine WA_skip 22 (by kernel_rfl) rfl ?_
      refine WA_take 23 (by kernel_rfl) rfl (fun _ _ => rn_pick_t rfl) ?_
      refine WA_done (by kernel_rfl) ?_
      refine thenN ?_
      refine W_t rfl ?_
      refine W_seq ?_
      refine W_region ?_
      refine WR_val rfl (rn_move) ?_
      refine WR_val rfl (rn_assign) ?_
      refine WR_val rfl (rn_assign) ?_
      refine WR_nil ?_
      refine thenN ?_
      refine W_ret ?_
      refine thenR ?_
      refine blockR ?_
      refine loopR ?_
      refine blockR ?_
      refine ret_ret [_, _] ⟨rfl, rfl, trivial⟩ ?_
      have he2 : joinIs X (n - atS T) = false := by rw [← hm', ← he]; exact hne
      exact ⟨⟨_, _, rfl, .inr ⟨rfl, hf2, g30, pr, cr, _, rfl, hout _ hBr (hend (recs_stop he2)) hry (hu.new hBr) (hrl.new hBr)⟩⟩, hB⟩
    ·
      have he3 : e = true := hne
      have hobt := hyes he3
      obtain ⟨hc0, hn0, hb0, hm0⟩ := hobt
      have he2 : joinIs X (n - atS T) = true := by rw [← hm', ← he]; exact he3
      rw [hb0] at hkb hsb
      refine WA_take 3 (by kernel_rfl) rfl (fun _ _ => rn_fieldAddr (off := 1) (by kernel_rfl) rfl) ?_
      refine WA_take 4 (by kernel_rfl) rfl (fun w' hS' => rn_load rfl (Ld.row1 (hr8_d902.kpd hS' (by first | (simp; done) | (simp; omega) | (simp [*]; done) | exact notLL (Or.inl (by omega)) | exact notLL (Or.inr (by simp)) | exact fun g hm => Nat.le_trans (by omega) (inLL hm).1 | (intro b o e; cases e; exact notLL (Or.inl (by omega))) | (intro b hm; have := (hu.lt b (Option.mem_toList.1 hm)).1; omega) | (intro b o e; cases e; intro hm; have := (hu.lt _ (Option.mem_toList.1 hm)).1; omega))) (by kernel_rfl) rfl)) ?_
      refine WA_take 5 (by kernel_rfl) rfl (fun _ _ => rn_move) ?_
      refine WA_take 6 (by kernel_rfl) rfl (fun _ _ => rn_nilCheckP rfl) ?_
      refine WA_take 7 (by kernel_rfl) rfl (fun _ _ => rn_fieldAddr (off := 3) (by kernel_rfl) rfl) ?_
      refine WA_take 8 (by kernel_rfl) rfl (fun w' hS' => rn_load rfl (Ld.row1 (hry_d902.kpd hS' (by first | (simp; done) | (simp; omega) | (simp [*]; done) | exact notLL (Or.inl (by omega)) | exact notLL (Or.inr (by simp)) | exact fun g hm => Nat.le_trans (by omega) (inLL hm).1 | (intro b o e; cases e; exact notLL (Or.inl (by omega))) | (intro b hm; have := (hu.lt b (Option.mem_toList.1 hm)).1; omega) | (intro b o e; cases e; intro hm; have := (hu.lt _ (Option.mem_toList.1 hm)).1; omega))) (by kernel_rfl) rfl)) ?_
      refine WA_take 9 (by kernel_rfl) rfl (fun _ _ => rn_lenSl (e := 60) (sz := 1) (by kernel_rfl) rfl rfl) ?_
      refine WA_take 10 (by kernel_rfl) rfl (fun _ _ => rn_neq rfl rfl) ?_
      refine WA_take 11 (by kernel_rfl) rfl (fun _ _ => rn_pick_f rfl) ?_
      refine WA_take 12 (by kernel_rfl) rfl (fun _ _ => rn_move) ?_
      refine WA_part 56 rfl (fun hn => ?_) (fun hn => ?_)
      ·
        refine WA_skip 13 (by kernel_rfl) rfl ?_
        refine WA_skip 14 (by kernel_rfl) rfl ?_
        refine WA_skip 15 (by kernel_rfl) rfl ?_
        refine WA_skip 16 (by kernel_rfl) rfl ?_
        refine WA_take 17 (by kernel_rfl) rfl (fun _ _ => rn_pick_t rfl) ?_
        refine WA_take 18 (by kernel_rfl) rfl (fun _ _ => rn_move) ?_
        refine WA_skip 19 (by kernel_rfl) rfl ?_
        refine WA_skip 20 (by kernel_rfl) rfl ?_
        refine WA_skip 21 (by kernel_rfl) rfl ?_
        refine WA_skip 22 (by kernel_rfl) rfl ?_
        refine WA_take 23 (by kernel_rfl) rfl (fun _ _ => rn_pick_t rfl) ?_
        refine WA_done (by kernel_rfl) ?_
        refine thenN ?_
        refine W_t rfl ?_
        refine W_seq ?_
        refine W_region ?_
        refine WR_val rfl (rn_move) ?_
        refine WR_val rfl (rn_assign) ?_
        refine WR_val rfl (rn_assign) ?_
        refine WR_nil ?_
        refine thenN ?_
        refine W_ret ?_
        refine thenR ?_
        refine blockR ?_
        refine loopR ?_
        refine blockR ?_
        refine ret_ret [_, _] ⟨rfl, rfl, trivial⟩ ?_
        have hbad : okRow S C T.length ⟨hCount (halfAt X 0), hNum (halfAt X 0), joinB X⟩ = none := by
          rw [okRow, if_neg]
          rintro ⟨q1, q2, q3⟩
          dsimp only at q1 q2 q3
          omega
        exact ⟨⟨_, _, rfl, .inr ⟨rfl, hf2, g30, pr, cr, _, rfl, hout _ hBr (hend (recs_bad he2 hbad)) hry (hu.new hBr) (hrl.new hBr)⟩⟩, hB⟩
      ·
        refine WA_take 13 (by kernel_rfl) rfl (fun _ _ => rn_fieldAddr (off := 0) (by kernel_rfl) rfl) ?_
        refine WA_take 14 (by kernel_rfl) rfl (fun w' hS' => rn_load rfl (Ld.row1 (hr8_d902.kpd hS' (by first | (simp; done) | (simp; omega) | (simp [*]; done) | exact notLL (Or.inl (by omega)) | exact notLL (Or.inr (by simp)) | exact fun g hm => Nat.le_trans (by omega) (inLL hm).1 | (intro b o e; cases e; exact notLL (Or.inl (by omega))) | (intro b hm; have := (hu.lt b (Option.mem_toList.1 hm)).1; omega) | (intro b o e; cases e; intro hm; have := (hu.lt _ (Option.mem_toList.1 hm)).1; omega))) (by kernel_rfl) rfl)) ?_
        refine WA_take 15 (by kernel_rfl) rfl (fun _ _ => rn_move) ?_
        refine WA_take 16 (by kernel_rfl) rfl (fun _ _ => rn_lss rfl rfl) ?_
        refine WA_take 17 (by kernel_rfl) rfl (fun _ _ => rn_pick_f rfl) ?_
        refine WA_take 18 (by kernel_rfl) rfl (fun _ _ => rn_move) ?_
        refine WA_part 62 rfl (fun hcs => ?_) (fun hcs => ?_)
        ·
          refine WA_skip 19 (by kernel_rfl) rfl ?_
          refine WA_skip 20 (by kernel_rfl) rfl ?_
          refine WA_skip 21 (by kernel_rfl) rfl ?_
          refine WA_skip 22 (by kernel_rfl) rfl ?_
          refine WA_take 23 (by kernel_rfl) rfl (fun _ _ => rn_pick_t rfl) ?_
          refine WA_done (by kernel_rfl) ?_
          refine thenN ?_
          refine W_t rfl ?_
          refine W_seq ?_
          refine W_region ?_
          refine WR_val rfl (rn_move) ?_
          refine WR_val rfl (rn_assign) ?_
          refine WR_val rfl (rn_assign) ?_
          refine WR_nil ?_
          refine thenN ?_
          refine W_ret ?_
          refine thenR ?_
          refine blockR ?_
          refine loopR ?_
          refine blockR ?_
          refine ret_ret [_, _] ⟨rfl, rfl, trivial⟩ ?_
          have hbad : okRow S C T.length ⟨hCount (halfAt X 0), hNum (halfAt X 0), joinB X⟩ = none := by
            rw [okRow, if_neg]
            rintro ⟨q1, q2, q3⟩
            dsimp only at q1 q2 q3
            omega
          exact ⟨⟨_, _, rfl, .inr ⟨rfl, hf2, g30, pr, cr, _, rfl, hout _ hBr (hend (recs_bad he2 hbad)) hry (hu.new hBr) (hrl.new hBr)⟩⟩, hB⟩
        ·
          refine WA_take 19 (by kernel_rfl) rfl (fun _ _ => rn_fieldAddr (off := 0) (by kernel_rfl) rfl) ?_
          refine WA_take 20 (by kernel_rfl) rfl (fun w' hS' => rn_load rfl (Ld.row1 (hr8_d902.kpd hS' (by first | (simp; done) | (simp; omega) | (simp [*]; done) | exact notLL (Or.inl (by omega)) | exact notLL (Or.inr (by simp)) | exact fun g hm => Nat.le_trans (by omega) (inLL hm).1 | (intro b o e; cases e; exact notLL (Or.inl (by omega))) | (intro b hm; have := (hu.lt b (Option.mem_toList.1 hm)).1; omega) | (intro b o e; cases e; intro hm; have := (hu.lt _ (Option.mem_toList.1 hm)).1; omega))) (by kernel_rfl) rfl)) ?_
          refine WA_take 21 (by kernel_rfl) rfl (fun _ _ => rn_move) ?_
          refine WA_take 22 (by kernel_rfl) rfl (fun _ _ => rn_gtr rfl rfl) ?_
          refine WA_take 23 (by kernel_rfl) rfl (fun _ _ => rn_pick_f rfl) ?_
          refine WA_done (by kernel_rfl) ?_
          refine thenN ?_
          refine W_ifp rfl (fun hcc => ?_) (fun hcc => ?_)
          ·
            refine W_seq ?_
            refine W_region ?_
            refine WR_val rfl (rn_move) ?_
            refine WR_val rfl (rn_assign) ?_
            refine WR_val rfl (rn_assign) ?_
            refine WR_nil ?_
            refine thenN ?_
            refine W_ret ?_
            refine thenR ?_
            refine blockR ?_
            refine loopR ?_
            refine blockR ?_
            refine ret_ret [_, _] ⟨rfl, rfl, trivial⟩ ?_
            have hbad : okRow S C T.length ⟨hCount (halfAt X 0), hNum (halfAt X 0), joinB X⟩ = none := by
              rw [okRow, if_neg]
              rintro ⟨q1, q2, q3⟩
              dsimp only at q1 q2 q3
              omega
            exact ⟨⟨_, _, rfl, .inr ⟨rfl, hf2, g30, pr, cr, _, rfl, hout _ hBr (hend (recs_bad he2 hbad)) hry (hu.new hBr) (hrl.new hBr)⟩⟩, hB⟩
          ·
            have hokr : ∀ r, ofR (joinB X) = r → okRow S C T.length ⟨hCount (halfAt X 0), hNum (halfAt X 0), joinB X⟩ = r := fun r hr => by
              rw [okRow, if_pos ⟨by dsimp only; omega, by dsimp only; omega, by dsimp only; omega⟩]; exact hr
            have hjl : (joinB X).length ≤ 1000000 := by
              have := (join_facts he2).2.2 hxl
              unfold needN manyN at this
              omega
            refine W_skip ?_
            refine thenN ?_
            refine W_seq ?_
            refine W_region ?_
            refine WR_val rfl (rn_move) ?_
            have hBr0 := hBr.size
            refine WR_ent rfl (rn_call (by kernel_rfl) rfl) (rof16c (joinB X) sp kk cq w902 (hsb.below hB9 (Nat.le_refl _)) hkc (by omega)) ?_
            rintro _ w71 ⟨⟨x2, k2, c2, e2, r2, rfl, rfl, hs2, hfr, hcase⟩, hb71⟩
            replace hry := hry.new hb71
            replace hr8 := hr8.new hb71
            replace hB := hB.acc hb71
            replace hBr := hBr.acc hb71
            replace hB9 := hB9.acc hb71
            refine WR_val rfl (rn_move) ?_
            refine WR_val rfl (rn_extract rfl rfl) ?_
            refine WR_val rfl (rn_extract rfl rfl) ?_
            refine WR_val rfl (rn_assign) ?_
            refine WR_val rfl (rn_assign) ?_
            refine WR_nil ?_
            refine thenN ?_
            refine W_seq ?_
            refine W_seq ?_
            refine W_region ?_
            refine WR_val rfl (rn_move) ?_
            refine WR_val rfl (rn_not rfl) ?_
            refine WR_nil ?_
            refine thenN ?_
            refine W_ifnb rfl (fun hof => ?_) (fun hof => ?_)
            ·
              refine W_seq ?_
              refine W_region ?_
              refine WR_val rfl (rn_move) ?_
              refine WR_val rfl (rn_assign) ?_
              refine WR_val rfl (rn_assign) ?_
              refine WR_nil ?_
              refine thenN ?_
              refine W_ret ?_
              refine thenR ?_
              refine blockR ?_
              refine loopR ?_
              refine blockR ?_
              refine ret_ret [_, _] ⟨rfl, rfl, trivial⟩ ?_
              have he5 : e2 = false := by cases e2 with | false => rfl | true => cases hof
              have hno : ofR (joinB X) = none := hcase.elim (fun h => by rw [he5] at h; cases h.2) fun h => h.1
              have hbad := hokr none hno
              exact ⟨⟨_, _, rfl, .inr ⟨rfl, hf2, g30, pr, cr, _, rfl, hout _ hBr (hend (recs_bad he2 hbad)) hry (hu.new hBr) (hrl.new hBr)⟩⟩, hB⟩
            ·
              have he5 : e2 = true := hof
              have hyo : ofR (joinB X) = some r2 := hcase.elim (fun h => h.1) fun h => by rw [he5] at h; cases h.2.2
              have hbad := hokr (some r2) hyo
              have hr60 := ofR_may hyo
              have hjb := ofR_len hyo
              have hnx := recs_next he2 hxl hbad
              have hatn := atS_snoc T r2
              have hjf := (join_facts he2).2.2 hxl
              have hneed : needN (joinB X).length = needN (516 * r2.length) := by rw [hjb]
              refine W_skip ?_
              refine thenN ?_
              refine W_seq ?_
              refine W_region ?_
              refine WR_val rfl (rn_move) ?_
              refine WR_val rfl (rn_move) ?_
              refine WR_val rfl (rn_nilCheckP rfl) ?_
              refine WR_val rfl (rn_fieldAddr (off := 3) (by kernel_rfl) rfl) ?_
              refine WR_val rfl (rn_load rfl (Ld.row1 hry (by kernel_rfl) rfl)) ?_
              refine WR_val rfl (rn_move) ?_
              refine WR_mk rfl (mk_one (e := 60) (.slice x2 r2.length c2) ([.slice x2 r2.length c2]) ([Value.slice none 0 0]) 1 (by kernel_rfl) (by kernel_rfl) rfl rfl rfl ⟨by decide, by decide⟩ (fun g83 w83 hg83 hr83 hb83 => ?_))
              have ge_hB_g83 := Nat.le_trans hB.size hg83
              have ge_hBr_g83 := Nat.le_trans hBr.size hg83
              have ge_hB9_g83 := Nat.le_trans hB9.size hg83
              have lt_g30_g83 : g30 < g83 := Nat.lt_of_lt_of_le hry.lt hg83
              have lt_g8_g83 : g8 < g83 := Nat.lt_of_lt_of_le hr8.lt hg83
              replace hry := hry.new hb83
              replace hr8 := hr8.new hb83
              replace hs2 := hs2.new hb83
              replace hB := hB.acc hb83
              replace hBr := hBr.acc hb83
              replace hB9 := hB9.acc hb83
              have hs83 := hr83.slA (m := 1) (sz := 1) rfl (by omega)
              have hub : ∀ b, (Value.slice pr T.length cr).ownBlock = some b → b < wr.heap.size := fun b hb => (hu.lt b hb).2
              replace hu := hu.new hBr
              replace hrl := hrl.new hBr
              have hbz := hBr.size
              have hobt := hs2.some (by omega)
              obtain ⟨g2, o2, rfl, hg2⟩ := hobt
              have hfr2 := hfr g2 o2 rfl
              have sz_hB_84 := hB.size
              refine WR_mk rfl (mk_append (e := 60) (sz := 1) (bytes := 24) (z := Value.slice none 0 0) (by kernel_rfl) rfl (by kernel_rfl) rfl (by decide) rfl hu rfl hs83 (by simp [Value.oneCell']) (by unfold maxLen; omega) (by omega) (fun hm0 => by omega) (fun v84 w84 hv84 hgr84 hfr84 => ?_))
              replace hry := hry.own hu hgr84 (by omega)
              replace hB := hB.own hu hgr84 (by omega)
              have hs2 := hs2.kpd (Kp.of_grown hgr84) (fun b o e hm => by cases e; have := hub _ (Option.mem_toList.1 hm); omega)
              have hrl2 := (hrl.grow hgr84 hfr84).snoc (c := c2) hs2 (by omega) (fun b off e => by
                cases e
                refine ⟨by omega, by have := hgr84.size; omega, fun e => ?_⟩
                rcases hfr84 _ e.symm with x | x
                · have := hub _ x; omega
                · omega)
              have hf84 := hv84.form
              obtain ⟨p4, c4, rfl⟩ := hf84
              refine WR_val rfl (rn_nilCheckP rfl) ?_
              refine WR_val rfl (rn_fieldAddr (off := 3) (by kernel_rfl) rfl) ?_
              refine WR_sk rfl (sk_store1 rfl rfl rfl rfl hry (by kernel_rfl) (by first | (simp only [List.length_replicate]; omega) | (simp only [iv_length]; omega) | (simp only [bv_length, List.length_set]; omega) | simp) (fun w903 hry ho903 => ?_))
              replace hv84 := hv84.only ho903 (by omega)
              replace hrl2 := hrl2.only ho903 (by omega)
              replace hB := ho903.below hB ge_hB_g30
              replace hry : row w903 g30 [.int .u64 C, .int .u64 S, .int .i64 (n : Int), .slice p4 (T.length + 1) c4, .int .i64 ((atS T : Nat) : Int)] 43 := hry
              have hz1 := ho903.size
              refine WR_nil ?_
              refine thenN ?_
              refine W_region ?_
              refine WR_val rfl (rn_move) ?_
              refine WR_val rfl (rn_move) ?_
              refine WR_val rfl (rn_nilCheckP rfl) ?_
              refine WR_val rfl (rn_fieldAddr (off := 4) (by kernel_rfl) rfl) ?_
              refine WR_val rfl (rn_load rfl (Ld.row1 hry (by kernel_rfl) rfl)) ?_
              refine WR_val rfl (rn_move) ?_
              refine WR_val rfl (rn_add rfl rfl (Coup.w64 (by omega))) ?_
              refine WR_val rfl (rn_nilCheckP rfl) ?_
              refine WR_val rfl (rn_fieldAddr (off := 4) (by kernel_rfl) rfl) ?_
              refine WR_sk rfl (sk_store1 rfl rfl rfl rfl hry (by kernel_rfl) (by first | (simp only [List.length_replicate]; omega) | (simp only [iv_length]; omega) | (simp only [bv_length, List.length_set]; omega) | simp) (fun w904 hry ho904 => ?_))
              replace hv84 := hv84.only ho904 (by omega)
              replace hrl2 := hrl2.only ho904 (by omega)
              replace hB := ho904.below hB ge_hB_g30
              have hz2 := ho904.size
              refine WR_nil ?_
              refine blockN ?_
              have hcast : (atS T : Int) + mm = ((atS (T ++ [r2]) : Nat) : Int) := by rw [hatn]; omega
              replace hry : row w904 g30 [.int .u64 C, .int .u64 S, .int .i64 (n : Int), .slice p4 (T.length + 1) c4, .int .i64 ((atS T : Int) + mm)] 43 := hry
              rw [hcast] at hry
              rw [← hlo2] at hv84 hrl2
              refine loopN ⟨T ++ [r2], by omega, ⟨rfl, rfl, rfl, rfl, rfl⟩, by omega, by rw [List.length_append, List.length_singleton]; omega, ?_, ⟨_, _, hry, by rw [List.length_append]; exact hv84, hrl2⟩, hB, by have := hgr84.size; omega⟩
              rw [hRR, hrec, hnx, List.length_append, List.length_singleton, hatn, hneed, ← hX, List.drop_drop, ← Nat.mul_add, Nat.sub_sub, List.append_assoc]
              rfl
end Go.Proofs.YtkkgahgpemepeaaGreat
namespace Go.Proofs.YtkkgahgpemepeaaGreat
open Go Go.RowKit Coup Go.ChangeShapes Go.WideShapes Go.Deep
structure CellT where
  at_ : Int
  kind : Int
  i : Int
  count : Nat
  since : Nat
  tc : Nat
  tn : Int
  b : List UInt8
  s : Sec
  torn : Bool
def ceC (a : CellT) (q : Option Addr) (cp : Nat) : List Value := .int .i64 a.at_ :: .int .i64 a.kind :: .int .i64 a.i :: .int .u64 (a.count : Int) :: .int .u64 (a.since : Int) :: .int .u64 (a.tc : Int) :: .int .i64 a.tn :: .slice q a.b.length cp :: (bv a.s ++ [.bool a.torn])
def CeQ (W : World) (a : CellT) (cs : List Value) : Prop := ∃ q cp, cs = ceC a q cp ∧ a.s.length = 128 ∧ SlAt W q a.b.length 1 (bv a.b) ∧ a.b.length ≤ cp ∧ wf64 a.at_ ∧ wf64 a.kind ∧ wf64 a.i ∧ a.count < 18446744073709551616 ∧ a.since < 18446744073709551616 ∧ a.tc < 18446744073709551616 ∧ wf64 a.tn
section
theorem CeQ.below {w w' : World} {a : CellT} {cs : List Value} (h : CeQ w a cs) (hb : Below w.heap.size w w') : CeQ w' a cs := by
  obtain ⟨q, cp, h1, h2, h3, h4⟩ := h
  exact ⟨q, cp, h1, h2, h3.below hb (Nat.le_refl _), h4⟩
variable {Y : World → List Nat → Prop} [Thing Y] {g : Nat} {D : Dk} {w w0 : World}
end
end Go.Proofs.YtkkgahgpemepeaaGreat
namespace Go.Proofs.YtkkgahgpemepeaaGreat
open Go Go.RowKit Coup
def zeroDk : List Value := [.slice none 0 0, .map none, .int .i64 0, .bool false, .bool false]
def NilD (w : World) (q : Value) : Prop := q = .pointer none ∨ ∃ g, q = .pointer (some ⟨g, 0, none⟩) ∧ row w g zeroDk 73
def zeroLg : List Value := [.int .u64 0, .int .u64 0, .pointer none, .int .i64 0, .int .i64 0, .int .i64 0, .bool false]
def NilL (w : World) (q : Value) : Prop := q = .pointer none ∨ ∃ g, q = .pointer (some ⟨g, 0, none⟩) ∧ row w g zeroLg 81
end Go.Proofs.YtkkgahgpemepeaaGreat
namespace Go.Proofs.YtkkgahgpemepeaaGreat
open Go Go.RowKit Coup
theorem half_app {P X : List UInt8} {i : Nat} (h : 64 * (i + 1) ≤ P.length) : halfAt (P ++ X) i = halfAt P i := by
  rw [halfAt, halfAt, List.drop_append_of_le_length (by omega), List.take_append_of_le_length (by rw [List.length_drop]; omega)]
theorem half_app2 {P X : List UInt8} {i k : Nat} (h : P.length = 64 * k) : halfAt (P ++ X) (k + i) = halfAt X i := by
  rw [halfAt, halfAt, show 64 * (k + i) = P.length + 64 * i by omega, ← List.drop_drop, List.drop_left' rfl]
theorem half_drop (X : List UInt8) (i k : Nat) : halfAt (X.drop (64 * k)) i = halfAt X (k + i) := by rw [halfAt, halfAt, List.drop_drop, ← Nat.mul_add]
theorem half_take {X : List UInt8} {i k : Nat} (h : i < k) : halfAt (X.take (64 * k)) i = halfAt X i := by
  rw [halfAt, halfAt, List.drop_take, List.take_take, Nat.min_eq_left (by omega)]
theorem halves_ext : ∀ (k : Nat) {A B : List UInt8}, A.length = 64 * k → B.length = 64 * k → (∀ i, i < k → halfAt A i = halfAt B i) → A = B
  | 0, A, B, ha, hb, _ => by rw [List.eq_nil_of_length_eq_zero (by omega : A.length = 0), List.eq_nil_of_length_eq_zero (by omega : B.length = 0)]
  | k + 1, A, B, ha, hb, h => by
    have h0 := h 0 (by omega)
    rw [halfAt, halfAt, Nat.mul_zero, List.drop_zero, List.drop_zero] at h0
    have ih := halves_ext k (A := A.drop 64) (B := B.drop 64) (by rw [List.length_drop]; omega) (by rw [List.length_drop]; omega) fun i hi => by
      have := h (1 + i) (by omega)
      rw [← half_drop, ← half_drop] at this
      exact this
    rw [← List.take_append_drop 64 A, ← List.take_append_drop 64 B, h0, ih]
def RowIm (c nn : Nat) (b P : List UInt8) : Prop := P.length = 128 * needN b.length ∧ ∀ i, i < manyN b.length → halfAt P i = halfB c nn i (manyN b.length) (pieceB b i)
theorem row_im (c nn : Nat) (b : List UInt8) : RowIm c nn b (rowB c nn b) := ⟨rowB_len c nn b, fun i hi => by
  have := row_half c nn b [] i hi
  rwa [List.append_nil] at this⟩
def tellP : Nat → List (Nat × Rec) → List UInt8 → Prop
  | _, [], P => P = []
  | k, x :: T, P => ∃ P1 P2, P = P1 ++ P2 ∧ RowIm x.1 k (recB x.2) P1 ∧ tellP (k + 1) T P2
theorem tellP_len : ∀ {k s c : Nat} {T : List (Nat × Rec)} {P : List UInt8}, okT s c T → tellP k T P → P.length = 128 * atT T
  | k, s, c, [], P, h, hp => by rw [show P = [] from hp]; rfl
  | k, s, c, x :: T, P, h, hp => by
    obtain ⟨P1, P2, rfl, h1, h2⟩ := hp
    obtain ⟨_, _, h3, _⟩ := h x (List.mem_cons_self ..)
    have ih := tellP_len (fun y hy => h y (List.mem_cons_of_mem _ hy)) h2
    rw [List.length_append, h1.1, recB_len h3, ih, atT_cons, Nat.mul_add]
theorem tellP_snoc : ∀ {k : Nat} {T : List (Nat × Rec)} {P Q : List UInt8} {c : Nat} {r : Rec}, tellP k T P → RowIm c (k + T.length) (recB r) Q → tellP k (T ++ [(c, r)]) (P ++ Q)
  | k, [], P, Q, c, r, h, hq => by
    rw [show P = [] from h]
    exact ⟨Q, [], by simp, hq, rfl⟩
  | k, x :: T, P, Q, c, r, h, hq => by
    obtain ⟨P1, P2, rfl, h1, h2⟩ := h
    refine ⟨P1, P2 ++ Q, by rw [List.append_assoc], h1, tellP_snoc h2 ?_⟩
    rw [List.length_cons, show k + (T.length + 1) = k + 1 + T.length by omega] at hq
    exact hq
theorem may_of {c k s cm : Nat} (h1 : 1 ≤ s) (h2 : s ≤ c) (h3 : c ≤ cm) (h4 : cm ≤ 4611686018427387904) (h5 : k < 2147483648) : mayT ((c : Nat) : Int) ((k : Nat) : Int) = true := by
  unfold mayT
  rw [decide_eq_true (by omega), decide_eq_true (by unfold maxCount; omega), decide_eq_true (by omega), decide_eq_true (by omega)]; rfl
theorem join_halves {l : List UInt8} {n : Nat} (hj : joinIs l n = true) : 0 < hMany (halfAt l 0) ∧ hMany (halfAt l 0) ≤ 683 ∧ (hMany (halfAt l 0) + 1) / 2 ≤ n ∧ ∀ i, i < hMany (halfAt l 0) → goodH (halfAt l i) (hCount (halfAt l 0)) (hNum (halfAt l 0)) i (hMany (halfAt l 0)) = true := by
  unfold joinIs joinMay joinOk at hj
  simp only [Bool.and_eq_true, decide_eq_true_eq, List.all_eq_true, List.mem_range] at hj
  obtain ⟨⟨h0, ⟨⟨⟨hmay, hm1⟩, hm2⟩, hm3⟩⟩, ⟨⟨hall, hK⟩, hmk⟩, hz⟩ := hj
  exact ⟨by omega, hm2, hm3, hall⟩
theorem good_facts {h : List UInt8} {c nn i m : Nat} (hg : goodH h c nn i m = true) : mayT (hCount h) (hNum h) = true ∧ hCount h = c ∧ hNum h = nn ∧ hMany h = m := by
  simp only [goodH, Bool.and_eq_true, decide_eq_true_eq] at hg
  exact ⟨hg.1.1.1, hg.1.1.2.1, hg.1.1.2.2, hg.2⟩
theorem bodies_cong {l l' : List UInt8} : ∀ {m : Nat}, (∀ i, i < m → halfAt l' i = halfAt l i) → bodies l' m = bodies l m
  | 0, _ => rfl
  | m + 1, h => by rw [bodies_succ, bodies_succ, bodies_cong fun i hi => h i (by omega), h m (by omega)]
theorem join_cong {l l' : List UInt8} {n : Nat} (hj : joinIs l n = true) (h : ∀ i, i < hMany (halfAt l 0) → halfAt l' i = halfAt l i) : joinIs l' n = true ∧ joinB l' = joinB l ∧ halfAt l' 0 = halfAt l 0 := by
  have h0 := h 0 (join_halves hj).1
  have hb := bodies_cong h
  have hb2 : bodies l' (hMany (halfAt l' 0)) = bodies l (hMany (halfAt l 0)) := by rw [h0, hb]
  have hK : joinK l' (hMany (halfAt l' 0)) = joinK l (hMany (halfAt l 0)) := by rw [joinK, joinK, hb2]
  have hB : joinB l' = joinB l := by rw [joinB, joinB, hb2, hK]
  refine ⟨?_, hB, h0⟩
  have hO : joinOk l' (hCount (halfAt l' 0)) (hNum (halfAt l' 0)) (hMany (halfAt l' 0)) = joinOk l (hCount (halfAt l 0)) (hNum (halfAt l 0)) (hMany (halfAt l 0)) := by
    unfold joinOk
    rw [hK, hb2, h0]
    congr 3
    rw [Bool.eq_iff_iff, List.all_eq_true, List.all_eq_true]
    exact ⟨fun hh i hi => by rw [← h i (List.mem_range.1 hi)]; exact hh i hi, fun hh i hi => by rw [h i (List.mem_range.1 hi)]; exact hh i hi⟩
  have : joinIs l' n = joinIs l n := by
    unfold joinIs joinMay
    rw [hO, h0]
  rw [this]; exact hj
end Go.Proofs.YtkkgahgpemepeaaGreat
namespace Go.Proofs.YtkkgahgpemepeaaGreat
open Go Go.RowKit Coup
def mayH (h : List UInt8) : Prop := mayT ((hCount h : Nat) : Int) ((hNum h : Nat) : Int) = true
def noNext (s k m : Nat) (X : List UInt8) : Prop := joinIs X m = true → s ≤ hCount (halfAt X 0) → hNum (halfAt X 0) = k → ofR (joinB X) = none
structure Inv (n c cx s : Nat) (T : List (Nat × Rec)) (B : List UInt8) : Prop where
  len : B.length = 128 * n
  s1 : 1 ≤ s
  sc : s ≤ c
  ok : okT s c T
  low : ∀ i, i < 2 * n → mayH (halfAt B i) → hCount (halfAt B i) ≤ c
  ex : ∃ P X, B = P ++ X ∧ tellP 0 T P ∧ atT T ≤ n ∧ (∀ i, i < 2 * (n - atT T) → mayH (halfAt X i) → hCount (halfAt X i) < cx ∧ (s ≤ hCount (halfAt X i) → hNum (halfAt X i) ≤ T.length)) ∧ noNext s T.length (n - atT T) X
theorem atT_len {s c : Nat} : ∀ {T : List (Nat × Rec)}, okT s c T → T.length ≤ atT T
  | [], _ => Nat.le_refl _
  | x :: T, h => by
    have ih := atT_len (T := T) fun y hy => h y (List.mem_cons_of_mem _ hy)
    obtain ⟨_, _, h3, h4⟩ := h x (List.mem_cons_self ..)
    have hpos := (needW_pos (of_decide_eq_true (Bool.and_eq_true_iff.1 h4).1)).2
    rw [atT_cons, List.length_cons]; omega
namespace Inv
variable {n c cx s : Nat} {T : List (Nat × Rec)} {B : List UInt8}
theorem up {c' cx' : Nat} (h : Inv n c cx s T B) (hc : c ≤ c') (hx : cx ≤ cx') : Inv n c' cx' s T B :=
  ⟨h.len, h.s1, Nat.le_trans h.sc hc, fun x hx => let ⟨a, b, d⟩ := h.ok x hx; ⟨a, Nat.le_trans b hc, d⟩, fun i hi hm => Nat.le_trans (h.low i hi hm) hc,
    let ⟨P, X, e, h1, h2, h3, h4⟩ := h.ex; ⟨P, X, e, h1, h2, fun i hi hm => ⟨Nat.lt_of_lt_of_le (h3 i hi hm).1 hx, (h3 i hi hm).2⟩, h4⟩⟩
end Inv
theorem zero_not (h : List UInt8) (h0 : hCount h = 0) : ¬ mayH h := fun hm => by
  have := (may_bounds hm).1
  omega
theorem row_halves {c k : Nat} {b : List UInt8} (hmt : mayT ((c : Nat) : Int) ((k : Nat) : Int) = true) (hb : b.length ≤ 32768) {i : Nat} (hi : i < 2 * needN b.length) (hm : mayH (halfAt (rowB c k b) i)) :
    i < manyN b.length ∧ hCount (halfAt (rowB c k b) i) = c ∧ hNum (halfAt (rowB c k b) i) = k ∧ hMany (halfAt (rowB c k b) i) = manyN b.length := by
  have hmb := may_bounds hmt
  have hmx := manyN_max hb
  by_cases hlt : i < manyN b.length
  · have hr := row_half c k b [] i hlt
    rw [List.append_nil] at hr
    obtain ⟨f1, f2, -, f4, -⟩ := halfB_fields c k i (manyN b.length) (pieceB b i)
    rw [← hr, Nat.mod_eq_of_lt (by omega)] at f1
    rw [← hr, Nat.mod_eq_of_lt (by omega)] at f2
    rw [← hr, Nat.mod_eq_of_lt (by omega)] at f4
    exact ⟨hlt, f1, f2, f4⟩
  · refine absurd hm (zero_not _ ?_)
    have hl : ((halvesL c k b).flatten).length = 64 * manyN b.length := by rw [flat64 _ (halvesL_64 c k b), halvesL_len]
    rw [hCount, halfAt, rowB, show 64 * i = ((halvesL c k b).flatten).length + 64 * (i - manyN b.length) by rw [hl]; omega, ← List.drop_drop, List.drop_left' rfl, zeros_drop, zeros_take, zeros_take, numB_zeros]
section
variable {n c s : Nat} {T : List (Nat × Rec)} {P X X' : List UInt8} {r : Rec}
theorem inv_mix (h : Inv n c c s T (P ++ X)) (hP : tellP 0 T P) (hX : X.length = 128 * (n - atT T)) (hat : atT T ≤ n)
    (h3 : ∀ i, i < 2 * (n - atT T) → mayH (halfAt X i) → hCount (halfAt X i) < c ∧ (s ≤ hCount (halfAt X i) → hNum (halfAt X i) ≤ T.length)) (h4 : noNext s T.length (n - atT T) X)
    (hc : c ≤ 4611686018427387904) (hn : n ≤ 4000) (hr : chsOk r) (hm : mayR r = true) (hfit : atT T + needN (516 * r.length) ≤ n) (hX' : X'.length = X.length)
    (hmix : ∀ i, i < 2 * (n - atT T) → halfAt X' i = halfAt X i ∨ (i < 2 * needN (516 * r.length) ∧ halfAt X' i = halfAt (rowB c T.length (recB r)) i)) :
    Inv n c (c + 1) s T (P ++ X') ∨ Inv n c (c + 1) s (T ++ [(c, r)]) (P ++ X') := by
  have hTl := atT_len h.ok
  have hPl := tellP_len h.ok hP
  have hmt := may_of (k := T.length) h.s1 h.sc (Nat.le_refl c) hc (by omega)
  have hrb := recB_len hr
  have hsh := rec_short hr hm
  have hN : needN (recB r).length = needN (516 * r.length) := by rw [hrb]
  have hlen : (P ++ X').length = 128 * n := by rw [List.length_append, hX', hX, hPl]; omega
  have hall : ∀ i, i < 2 * (n - atT T) → mayH (halfAt X' i) → hCount (halfAt X' i) ≤ c ∧ (s ≤ hCount (halfAt X' i) → hNum (halfAt X' i) ≤ T.length) := fun i hi hmi => by
    rcases hmix i hi with e | ⟨hik, e⟩
    · rw [e] at hmi ⊢
      have := h3 i hi hmi
      exact ⟨by omega, this.2⟩
    · rw [e] at hmi ⊢
      obtain ⟨_, q1, q2, _⟩ := row_halves hmt hsh (by rw [hN]; exact hik) hmi
      rw [q1, q2]
      exact ⟨Nat.le_refl _, fun _ => Nat.le_refl _⟩
  have hlow : ∀ i, i < 2 * n → mayH (halfAt (P ++ X') i) → hCount (halfAt (P ++ X') i) ≤ c := fun i hi hmi => by
    by_cases hip : i < 2 * atT T
    · have e1 : halfAt (P ++ X') i = halfAt P i := half_app (by omega)
      have e2 : halfAt (P ++ X) i = halfAt P i := half_app (by omega)
      rw [e1, ← e2] at hmi ⊢
      exact h.low i hi hmi
    · have e1 : halfAt (P ++ X') i = halfAt X' (i - 2 * atT T) := by
        have := half_app2 (X := X') (i := i - 2 * atT T) (k := 2 * atT T) (P := P) (by omega)
        rwa [show 2 * atT T + (i - 2 * atT T) = i by omega] at this
      rw [e1] at hmi ⊢
      exact (hall _ (by omega) hmi).1
  by_cases hacc : joinIs X' (n - atT T) = true ∧ s ≤ hCount (halfAt X' 0) ∧ hNum (halfAt X' 0) = T.length ∧ ofR (joinB X') ≠ none
  · obtain ⟨hj, hs, hk, hof⟩ := hacc
    obtain ⟨j1, j2, j3, j4⟩ := join_halves hj
    obtain ⟨g1, _⟩ := good_facts (j4 0 j1)
    have hc0 := (hall 0 (by omega) g1).1
    by_cases hlt : hCount (halfAt X' 0) < c
    ·
      exfalso
      have hcong : ∀ i, i < hMany (halfAt X' 0) → halfAt X i = halfAt X' i := fun i hi => by
        obtain ⟨f1, f2, _⟩ := good_facts (j4 i hi)
        rcases hmix i (by omega) with e | ⟨hik, e⟩
        · exact e.symm
        · have f1' : mayH (halfAt (rowB c T.length (recB r)) i) := by rw [← e]; exact f1
          obtain ⟨_, q1, _⟩ := row_halves hmt hsh (by rw [hN]; exact hik) f1'
          rw [e, q1] at f2
          omega
      obtain ⟨k1, k2, k3⟩ := join_cong hj hcong
      have := h4 k1 (by rw [k3]; exact hs) (by rw [k3]; exact hk)
      rw [k2] at this
      exact hof this
    ·
      right
      have hceq : hCount (halfAt X' 0) = c := by omega
      have hnew : ∀ i, i < hMany (halfAt X' 0) → i < manyN (recB r).length ∧ halfAt X' i = halfAt (rowB c T.length (recB r)) i ∧ hMany (halfAt X' 0) = manyN (recB r).length := fun i hi => by
        obtain ⟨f1, f2, _, f4⟩ := good_facts (j4 i hi)
        rcases hmix i (by omega) with e | ⟨hik, e⟩
        · have f1' : mayH (halfAt X i) := by rw [← e]; exact f1
          have := (h3 i (by omega) f1').1
          rw [← e, f2, hceq] at this
          omega
        · have f1' : mayH (halfAt (rowB c T.length (recB r)) i) := by rw [← e]; exact f1
          obtain ⟨q0, _, _, q4⟩ := row_halves hmt hsh (by rw [hN]; exact hik) f1'
          exact ⟨q0, e, by rw [← f4, e, q4]⟩
      have hM := (hnew 0 j1).2.2
      have hwl : 128 * needN (516 * r.length) ≤ X'.length := by rw [hX', hX]; omega
      have him : RowIm c (0 + T.length) (recB r) (X'.take (128 * needN (516 * r.length))) := by
        refine ⟨by rw [List.length_take, hN]; omega, fun i hi => ?_⟩
        have hmn : manyN (recB r).length ≤ 2 * needN (516 * r.length) := by rw [← hN]; unfold needN; omega
        rw [show 128 * needN (516 * r.length) = 64 * (2 * needN (516 * r.length)) by omega, half_take (by omega), (hnew i (by omega)).2.1, Nat.zero_add]
        exact (row_im c T.length (recB r)).2 i hi
      have hatT : atT (T ++ [(c, r)]) = atT T + needN (516 * r.length) := by simp [atT, atS]
      have hd : ∀ i, halfAt (X'.drop (128 * needN (516 * r.length))) i = halfAt X' (2 * needN (516 * r.length) + i) := fun i => by
        rw [show 128 * needN (516 * r.length) = 64 * (2 * needN (516 * r.length)) by omega, half_drop]
      refine ⟨hlen, h.s1, h.sc, fun x hx => ?_, hlow, P ++ X'.take (128 * needN (516 * r.length)), X'.drop (128 * needN (516 * r.length)), by rw [List.append_assoc, List.take_append_drop], tellP_snoc hP him, by rw [hatT]; exact hfit, fun i hi hmi => ?_, fun hj2 hs2 hk2 => ?_⟩
      · rcases List.mem_append.1 hx with hx | hx
        · exact h.ok x hx
        · rw [List.mem_singleton.1 hx]; exact ⟨h.sc, Nat.le_refl _, hr, hm⟩
      · rw [hatT] at hi
        rw [hd] at hmi ⊢
        have := hall (2 * needN (516 * r.length) + i) (by omega) hmi
        rw [List.length_append, List.length_singleton]
        exact ⟨by omega, fun hss => Nat.le_succ_of_le (this.2 hss)⟩
      · exfalso
        obtain ⟨m1, _, m3, m4⟩ := join_halves hj2
        obtain ⟨p1, _⟩ := good_facts (m4 0 m1)
        rw [hatT] at m3
        rw [hd] at p1 hs2 hk2
        have := (hall (2 * needN (516 * r.length) + 0) (by omega) p1).2 hs2
        rw [hk2, List.length_append, List.length_singleton] at this
        omega
  · left
    refine ⟨hlen, h.s1, h.sc, h.ok, hlow, P, X', rfl, hP, hat, fun i hi hmi => ?_, fun hj hs hk => ?_⟩
    · have := hall i hi hmi
      exact ⟨by omega, this.2⟩
    · cases ho : ofR (joinB X') with
      | none => rfl
      | some v => exact absurd ⟨hj, hs, hk, by rw [ho]; exact fun e => nomatch e⟩ hacc
theorem inv_done (h : Inv n c c s T (P ++ X)) (hP : tellP 0 T P) (hX : X.length = 128 * (n - atT T))
    (h3 : ∀ i, i < 2 * (n - atT T) → mayH (halfAt X i) → hCount (halfAt X i) < c ∧ (s ≤ hCount (halfAt X i) → hNum (halfAt X i) ≤ T.length))
    (hc : c ≤ 4611686018427387904) (hn : n ≤ 4000) (hr : chsOk r) (hm : mayR r = true) (hfit : atT T + needN (516 * r.length) ≤ n) :
    Inv n c c s (T ++ [(c, r)]) (P ++ (rowB c T.length (recB r) ++ X.drop (128 * needN (516 * r.length)))) := by
  have hTl := atT_len h.ok
  have hPl := tellP_len h.ok hP
  have hmt := may_of (k := T.length) h.s1 h.sc (Nat.le_refl c) hc (by omega)
  have hrb := recB_len hr
  have hsh := rec_short hr hm
  have hN : needN (recB r).length = needN (516 * r.length) := by rw [hrb]
  have hRl := rowB_len c T.length (recB r)
  have hatT : atT (T ++ [(c, r)]) = atT T + needN (516 * r.length) := by simp [atT, atS]
  have hd : ∀ i, halfAt (X.drop (128 * needN (516 * r.length))) i = halfAt X (2 * needN (516 * r.length) + i) := fun i => by
    rw [show 128 * needN (516 * r.length) = 64 * (2 * needN (516 * r.length)) by omega, half_drop]
  have him : RowIm c (0 + T.length) (recB r) (rowB c T.length (recB r)) := by rw [Nat.zero_add]; exact row_im ..
  refine ⟨by rw [List.length_append, List.length_append, List.length_drop, hRl, hPl, hX, hN]; omega, h.s1, h.sc, fun x hx => ?_, fun i hi hmi => ?_, P ++ rowB c T.length (recB r), X.drop (128 * needN (516 * r.length)), by rw [List.append_assoc], tellP_snoc hP him, by rw [hatT]; exact hfit, fun i hi hmi => ?_, fun hj2 hs2 hk2 => ?_⟩
  · rcases List.mem_append.1 hx with hx | hx
    · exact h.ok x hx
    · rw [List.mem_singleton.1 hx]; exact ⟨h.sc, Nat.le_refl _, hr, hm⟩
  · by_cases hip : i < 2 * atT T
    · have e1 : halfAt (P ++ (rowB c T.length (recB r) ++ X.drop (128 * needN (516 * r.length)))) i = halfAt P i := half_app (by omega)
      have e2 : halfAt (P ++ X) i = halfAt P i := half_app (by omega)
      rw [e1, ← e2] at hmi ⊢
      exact h.low i hi hmi
    · obtain ⟨j, rfl⟩ : ∃ j, i = 2 * atT T + j := ⟨i - 2 * atT T, by omega⟩
      rw [half_app2 (by omega)] at hmi ⊢
      by_cases hj : j < 2 * needN (516 * r.length)
      · rw [half_app (by rw [hRl, hN]; omega)] at hmi ⊢
        obtain ⟨_, q1, _⟩ := row_halves hmt hsh (by rw [hN]; exact hj) hmi
        omega
      · obtain ⟨l, rfl⟩ : ∃ l, j = 2 * needN (516 * r.length) + l := ⟨j - 2 * needN (516 * r.length), by omega⟩
        rw [half_app2 (by rw [hRl, hN]; omega), hd] at hmi ⊢
        have := (h3 (2 * needN (516 * r.length) + l) (by omega) hmi).1
        omega
  · rw [hatT] at hi
    rw [hd] at hmi ⊢
    have := h3 (2 * needN (516 * r.length) + i) (by omega) hmi
    rw [List.length_append, List.length_singleton]
    exact ⟨this.1, fun hss => Nat.le_succ_of_le (this.2 hss)⟩
  · exfalso
    obtain ⟨m1, _, m3, m4⟩ := join_halves hj2
    obtain ⟨p1, _⟩ := good_facts (m4 0 m1)
    rw [hatT] at m3
    rw [hd] at p1 hs2 hk2
    have := (h3 (2 * needN (516 * r.length) + 0) (by omega) p1).2 hs2
    rw [hk2, List.length_append, List.length_singleton] at this
    omega
end
end Go.Proofs.YtkkgahgpemepeaaGreat
namespace Go.Proofs.YtkkgahgpemepeaaGreat
open Go Go.RowKit Coup Go.ChangeShapes Go.WideShapes Go.Deep
def fitZ (all n : Int) : Bool := decide (4 ≤ n ∧ n ≤ 4000 ∧ n < all)
theorem crash_read {D : Dk} {i : Nat} (picks : List Int) (hb : openB D i = false) : readD (crashD D picks) i = readD D i := by
  have e : ver (crashD D picks) i = ver (setAll D (setXs D fun k i => leftS (ver D i) (picks.getD k 0))) i := rfl
  rw [readD, readD, e, ver_unsettled hb]
section
variable {Y : World → List Nat → Prop} [Thing Y] {g lo : Nat} {L : List Nat} {D : Dk} {w : World}
end
end Go.Proofs.YtkkgahgpemepeaaGreat
namespace Go.Proofs.YtkkgahgpemepeaaGreat
open Go Go.RowKit Coup
theorem step_yes {D : Dk} (h : stepOk D = true) : D.dead = false ∧ (stepD D).dead = false := by
  have hd : D.dead = false := by
    cases hx : D.dead with
    | false => rfl
    | true => rw [(stepD_dead hx).1] at h; cases h
  exact ⟨hd, by rw [stepD, if_pos h]; exact hd⟩
theorem step_no {D : Dk} (h : stepOk D = false) : (stepD D).dead = true := by rw [stepD, h]; rfl
theorem ver_V {D D' : Dk} (h : D'.V = D.V) (j : Nat) : ver D' j = ver D j := by rw [ver, ver, h]
theorem write_yes {D : Dk} (h : stepOk D = true) {i : Nat} (hi : i < D.V.length) (s : Sec) : (writeA D (i : Int) s).dead = false ∧ ∀ j, ver (writeA D (i : Int) s) j = if i = j then ver D j ++ [s] else ver D j := by
  have hin : inD D (i : Int) = true := decide_eq_true ⟨by omega, by omega⟩
  rw [writeA, hin, if_pos rfl, Int.toNat_natCast, writeD, if_pos h]
  refine ⟨(step_yes h).2, fun j => ?_⟩
  rw [ver_set (by rw [stepD_V]; exact hi), ver_V (stepD_V D)]
  by_cases e : i = j
  · subst e; rw [if_pos rfl]
  · rw [if_neg e, if_neg e]
theorem write_no {D : Dk} (h : stepOk D = false) {i : Nat} (hi : i < D.V.length) (s : Sec) : (writeA D (i : Int) s).dead = true ∧ ∀ j, ver (writeA D (i : Int) s) j = ver D j := by
  have hin : inD D (i : Int) = true := decide_eq_true ⟨by omega, by omega⟩
  rw [writeA, hin, if_pos rfl, Int.toNat_natCast, writeD, h]
  exact ⟨step_no h, fun j => ver_V (stepD_V D) j⟩
theorem writes_cases : ∀ (R : List Sec) (D : Dk) (a : Nat), D.dead = false → a + R.length ≤ D.V.length →
    ((writesW D a R).2 = true ∧ (writesW D a R).1.dead = false ∧ ∀ j, ver (writesW D a R).1 j = if a ≤ j ∧ j < a + R.length then ver D j ++ [R.getD (j - a) zeroS] else ver D j) ∨
    ((writesW D a R).2 = false ∧ (writesW D a R).1.dead = true ∧ ∀ j, ver (writesW D a R).1 j = ver D j ∨ (a ≤ j ∧ j < a + R.length ∧ ver (writesW D a R).1 j = ver D j ++ [R.getD (j - a) zeroS]))
  | [], D, a, hd, _ => .inl ⟨rfl, hd, fun j => by rw [if_neg (by rw [List.length_nil]; omega)]; rfl⟩
  | t :: R, D, a, hd, hl => by
    rw [List.length_cons] at hl
    rw [writesW]
    cases hs : stepOk D with
    | false =>
      obtain ⟨h1, h2⟩ := write_no hs (i := a) (by omega) t
      rw [if_neg (by simp)]
      exact .inr ⟨rfl, h1, fun j => .inl (h2 j)⟩
    | true =>
      obtain ⟨h1, h2⟩ := write_yes hs (i := a) (by omega) t
      rw [if_pos rfl]
      have hlen : (writeA D (a : Int) t).V.length = D.V.length := writeA_len _ _ _
      rcases writes_cases R (writeA D (a : Int) t) (a + 1) h1 (by rw [hlen]; omega) with ⟨e1, e2, e3⟩ | ⟨e1, e2, e3⟩
      · refine .inl ⟨e1, e2, fun j => ?_⟩
        rw [e3 j, h2 j, List.length_cons]
        by_cases c1 : a + 1 ≤ j ∧ j < a + 1 + R.length
        · rw [if_pos c1, if_neg (by omega : ¬ a = j), if_pos (by omega : a ≤ j ∧ j < a + (R.length + 1)), show j - a = (j - (a + 1)) + 1 by omega, List.getD_cons_succ]
        · rw [if_neg c1]
          by_cases c2 : a = j
          · rw [if_pos c2, if_pos (by omega), show j - a = 0 by omega, List.getD_cons_zero]
          · rw [if_neg c2, if_neg (by omega)]
      · refine .inr ⟨e1, e2, fun j => ?_⟩
        rw [List.length_cons]
        rcases e3 j with h3 | ⟨k1, k2, k3⟩
        · rw [h3, h2 j]
          by_cases c2 : a = j
          · rw [if_pos c2]
            exact .inr ⟨by omega, by omega, by rw [show j - a = 0 by omega, List.getD_cons_zero]⟩
          · rw [if_neg c2]; exact .inl rfl
        · rw [k3, h2 j, if_neg (by omega)]
          exact .inr ⟨by omega, by omega, by rw [show j - a = (j - (a + 1)) + 1 by omega, List.getD_cons_succ]⟩
theorem flush_yes {D : Dk} (h : stepOk D = true) : (flushD D).dead = false ∧ shortD (flushD D) 1 ∧ ∀ j, j < D.V.length → readD (flushD D) j = readD D j := by
  refine ⟨?_, ?_, fun j hj => readF h hj⟩
  · rw [flushD, if_pos h]; exact (step_yes h).2
  · rw [flushD, if_pos h]
    intro v hv
    obtain ⟨u, _, rfl⟩ := List.mem_map.1 hv
    simp
theorem flush_no {D : Dk} (h : stepOk D = false) : (flushD D).dead = true ∧ ∀ j, ver (flushD D) j = ver D j := by
  rw [flushD, h]
  exact ⟨step_no h, fun j => ver_V (stepD_V D) j⟩
theorem put_cases (R : List Sec) {D : Dk} (a : Nat) (hd : D.dead = false) (hsh : shortD D 1) (hl : a + R.length ≤ D.V.length) :
    ((putW D a R).2 = true ∧ (putW D a R).1.dead = false ∧ shortD (putW D a R).1 1 ∧ ∀ j, j < D.V.length → readD (putW D a R).1 j = if a ≤ j ∧ j < a + R.length then R.getD (j - a) zeroS else readD D j) ∨
    ((putW D a R).2 = false ∧ (putW D a R).1.dead = true ∧ ∀ j, ver (putW D a R).1 j = ver D j ∨ (a ≤ j ∧ j < a + R.length ∧ ver (putW D a R).1 j = ver D j ++ [R.getD (j - a) zeroS])) := by
  rcases writes_cases R D a hd hl with ⟨e1, e2, e3⟩ | ⟨e1, e2, e3⟩
  · rw [putW, if_pos e1]
    cases hs : stepOk (writesW D a R).1 with
    | true =>
      obtain ⟨f1, f2, f3⟩ := flush_yes hs
      refine .inl ⟨rfl, f1, f2, fun j hj => ?_⟩
      rw [f3 j (by rw [writesW_len]; exact hj), readD, e3 j]
      by_cases c : a ≤ j ∧ j < a + R.length
      · rw [if_pos c, if_pos c]; simp [lastS]
      · rw [if_neg c, if_neg c]; rfl
    | false =>
      obtain ⟨f1, f2⟩ := flush_no hs
      refine .inr ⟨rfl, f1, fun j => ?_⟩
      rw [f2 j, e3 j]
      by_cases c : a ≤ j ∧ j < a + R.length
      · rw [if_pos c]; exact .inr ⟨c.1, c.2, rfl⟩
      · rw [if_neg c]; exact .inl rfl
  · rw [putW, if_neg (by rw [e1]; simp)]
    exact .inr ⟨e1, e2, e3⟩
theorem put_len (D : Dk) (a : Nat) (R : List Sec) : (putW D a R).1.V.length = D.V.length := by
  unfold putW
  split
  · rw [flush_len, writesW_len]
  · rw [writesW_len]
theorem save_put (D : Dk) (c s : Nat) : saveD D c s = (putW D 0 [headB c s]).1 ∧ saveE D c s = (putW D 0 [headB c s]).2 := by
  cases hs : stepOk D with
  | true =>
    have : writesW D 0 [headB c s] = (writeA D 0 (headB c s), true) := by rw [writesW, if_pos hs]; rfl
    rw [putW, this, if_pos rfl, saveD, saveE, hs, if_pos rfl]
    exact ⟨rfl, Bool.true_and _⟩
  | false =>
    have : writesW D 0 [headB c s] = (writeA D 0 (headB c s), false) := by rw [writesW, hs]; rfl
    rw [putW, this, saveD, saveE, hs]
    exact ⟨rfl, rfl⟩
theorem ver_one {D : Dk} (hok : DkOk D) (hsh : shortD D 1) {j : Nat} (hj : j < D.V.length) : ver D j = [readD D j] := by
  obtain ⟨h1, _, _⟩ := ver_ok hok hj
  have h2 := hsh.ver hj
  have h3 := List.length_pos_iff.2 h1
  obtain ⟨a, ha⟩ := List.length_eq_one_iff.1 (show (ver D j).length = 1 by omega)
  rw [readD, ha]; rfl
theorem sec_halves {s : Sec} (h : s.length = 128) : s = fstH s ++ sndH s := by
  unfold fstH sndH
  rw [List.drop_zero, List.take_of_length_le (l := s.drop 64) (by rw [List.length_drop]; omega), List.take_append_drop]
theorem crash_two {D D2 : Dk} (hok : DkOk D) (hsh : shortD D 1) (hok2 : DkOk D2) (hlen : D2.V.length = D.V.length) (p : List Int) {j : Nat} (hj : j < D.V.length) {t : Sec} {q : Prop} (hv : ver D2 j = ver D j ∨ (q ∧ ver D2 j = ver D j ++ [t])) :
    (readD (crashD D2 p) j).length = 128 ∧ (fstH (readD (crashD D2 p) j) = fstH (readD D j) ∨ (q ∧ fstH (readD (crashD D2 p) j) = fstH t)) ∧ (sndH (readD (crashD D2 p) j) = sndH (readD D j) ∨ (q ∧ sndH (readD (crashD D2 p) j) = sndH t)) := by
  obtain ⟨s, h1, h2, a, ha, b, hb, h3, h4⟩ := crash_ver hok2 p (i := j) (by rw [hlen]; exact hj)
  have hr : readD (crashD D2 p) j = s := by rw [readD, h1]; rfl
  rw [hr]
  have hone := ver_one hok hsh hj
  refine ⟨h2, ?_, ?_⟩
  · rw [h3]
    rcases hv with e | ⟨hq, e⟩
    · rw [e, hone, List.mem_singleton] at ha; rw [ha]; exact .inl rfl
    · rw [e, hone] at ha
      rcases List.mem_append.1 ha with ha | ha
      · rw [List.mem_singleton.1 ha]; exact .inl rfl
      · rw [List.mem_singleton.1 ha]; exact .inr ⟨hq, rfl⟩
  · rw [h4]
    rcases hv with e | ⟨hq, e⟩
    · rw [e, hone, List.mem_singleton] at hb; rw [hb]; exact .inl rfl
    · rw [e, hone] at hb
      rcases List.mem_append.1 hb with hb | hb
      · rw [List.mem_singleton.1 hb]; exact .inl rfl
      · rw [List.mem_singleton.1 hb]; exact .inr ⟨hq, rfl⟩
theorem crash_short1 {D : Dk} (hok : DkOk D) (p : List Int) : shortD (crashD D p) 1 := fun v hv => by
  obtain ⟨j, hj⟩ := List.mem_iff_getElem?.1 hv
  have hjl := (List.getElem?_eq_some_iff.1 hj).1
  rw [crash_len] at hjl
  obtain ⟨s, h1, _⟩ := crash_ver hok p hjl
  have : v = ver (crashD D p) j := by
    rw [ver, List.getD_eq_getElem?_getD, hj]; rfl
  rw [this, h1]; exact Nat.le_refl _
theorem logB_len {D : Dk} (h : DkOk D) {n : Nat} (hn : 1 + n ≤ D.V.length) : (logB D n).length = 128 * n := by rw [logB_eq, flat_len (secL_ok h hn), secL_len, Nat.mul_comm]
theorem flat_half {L : List Sec} (h : secsOk L) {j : Nat} {s : Sec} (hs : L[j]? = some s) : halfAt L.flatten (2 * j) = fstH s ∧ halfAt L.flatten (2 * j + 1) = sndH s := by
  have hf := flat_at h hs
  have e1 : halfAt L.flatten (2 * j) = ((L.flatten.drop (j * 128)).take 128).take 64 := by rw [halfAt, List.take_take, Nat.min_eq_left (by omega), show 64 * (2 * j) = j * 128 by omega]
  have e2 : halfAt L.flatten (2 * j + 1) = ((L.flatten.drop (j * 128)).take 128).drop 64 := by rw [halfAt, List.drop_take, List.drop_drop, show 64 * (2 * j + 1) = j * 128 + 64 by omega]
  have hl := h s (List.mem_of_getElem? hs)
  rw [e1, e2, hf]
  unfold fstH sndH
  exact ⟨by rw [List.drop_zero], by rw [List.take_of_length_le (l := s.drop 64) (by rw [List.length_drop]; omega)]⟩
theorem log_half {D : Dk} (h : DkOk D) {n j : Nat} (hn : 1 + n ≤ D.V.length) (hj : j < n) : halfAt (logB D n) (2 * j) = fstH (readD D (1 + j)) ∧ halfAt (logB D n) (2 * j + 1) = sndH (readD D (1 + j)) :=
  flat_half (secL_ok h hn) (secL_get D hj)
theorem logB_cong {D D' : Dk} {n : Nat} (h : ∀ j, j < n → readD D' (1 + j) = readD D (1 + j)) : logB D' n = logB D n := by
  unfold logB
  congr 1
  exact List.map_congr_left fun i hi => h i (List.mem_range.1 hi)
structure LogOn (D : Dk) (n c cx s : Nat) (T : List (Nat × Rec)) : Prop where
  ok : DkOk D
  len : 1 + n ≤ D.V.length
  short : shortD D 1
  head : readD D 0 = headB c s
  inv : Inv n c cx s T (logB D n)
theorem head_len (c s : Nat) : (headB c s).length = 128 := headB_len c s
theorem head_snd (c s : Nat) : sndH (headB c s) = zerosB 64 := by
  have hl : (magic ++ (beB 8 c ++ beB 8 s)).length = 20 := by simp [magic, beB_length]
  have he : headB c s = (magic ++ (beB 8 c ++ beB 8 s)) ++ zerosB 108 := by simp [headB, List.append_assoc]
  rw [sndH, he, List.drop_append, List.drop_of_length_le (l := magic ++ (beB 8 c ++ beB 8 s)) (by omega), List.nil_append, hl, zeros_drop, zeros_take]; rfl
namespace LogOn
variable {D D' : Dk} {n c cx s : Nat} {T : List (Nat × Rec)}
theorem same (h : LogOn D n c cx s T) (hok : DkOk D') (hlen : D'.V.length = D.V.length) (hsh : shortD D' 1) (hr : ∀ j, j < D.V.length → readD D' j = readD D j) : LogOn D' n c cx s T := by
  have hl := h.len
  exact ⟨hok, by rw [hlen]; exact hl, hsh, (hr 0 (by omega)).trans h.head, by rw [logB_cong fun j hj => hr (1 + j) (by omega)]; exact h.inv⟩
theorem crash (h : LogOn D n c cx s T) (p : List Int) (hok : DkOk (crashD D p)) : LogOn (crashD D p) n c cx s T :=
  h.same hok (crash_len D p) (crash_short1 h.ok p) fun j hj => crash_read p (by
    unfold openB
    have := h.short.ver hj
    exact decide_eq_false (by omega))
theorem rehead {c' cx' s' : Nat} {T' : List (Nat × Rec)} (h : LogOn D n c cx s T) (hok : DkOk D') (hlen : D'.V.length = D.V.length) (hsh : shortD D' 1) (h0 : readD D' 0 = headB c' s') (hr : ∀ j, j < D.V.length → j ≠ 0 → readD D' j = readD D j)
    (hi : Inv n c cx s T (logB D n) → Inv n c' cx' s' T' (logB D n)) : LogOn D' n c' cx' s' T' := by
  have hl := h.len
  exact ⟨hok, by rw [hlen]; exact hl, hsh, h0, by rw [logB_cong fun j hj => hr (1 + j) (by omega) (by omega)]; exact hi h.inv⟩
theorem save {c' cx' s' : Nat} {T' : List (Nat × Rec)} (h : LogOn D n c cx s T) (hd : D.dead = false) (hok : DkOk (saveD D c' s')) (hok2 : ∀ p, DkOk (crashD (saveD D c' s') p)) (hi : Inv n c cx s T (logB D n) → Inv n c' cx' s' T' (logB D n)) :
    (saveE D c' s' = true ∧ (saveD D c' s').dead = false ∧ LogOn (saveD D c' s') n c' cx' s' T') ∨
    (saveE D c' s' = false ∧ (saveD D c' s').dead = true ∧ ∀ p, LogOn (crashD (saveD D c' s') p) n c cx s T ∨ LogOn (crashD (saveD D c' s') p) n c' cx' s' T') := by
  have hl := h.len
  obtain ⟨e1, e2⟩ := save_put D c' s'
  have hlen : (saveD D c' s').V.length = D.V.length := by rw [e1, put_len]
  rcases put_cases [headB c' s'] 0 hd h.short (by simp; omega) with ⟨f1, f2, f3, f4⟩ | ⟨f1, f2, f3⟩
  · left
    rw [← e1] at f2 f3 f4
    rw [← e2] at f1
    refine ⟨f1, f2, h.rehead hok hlen f3 ?_ (fun j hj h0 => ?_) hi⟩
    · rw [f4 0 (by omega), if_pos (by simp)]; rfl
    · rw [f4 j hj, if_neg (by simp; omega)]
  · right
    rw [← e1] at f2 f3
    rw [← e2] at f1
    refine ⟨f1, f2, fun p => ?_⟩
    have hj : ∀ j, j < D.V.length → j ≠ 0 → readD (crashD (saveD D c' s') p) j = readD D j := fun j hj h0 => by
      obtain ⟨g1, g2, g3⟩ := crash_two (q := False) (t := zeroS) h.ok h.short hok hlen p hj (by
        rcases f3 j with e | ⟨_, k2, _⟩
        · exact .inl e
        · simp at k2; omega)
      rw [sec_halves g1, sec_halves (readD_len h.ok hj)]
      rcases g2 with g2 | ⟨g2, _⟩
      · rcases g3 with g3 | ⟨g3, _⟩
        · rw [g2, g3]
        · exact g3.elim
      · exact g2.elim
    obtain ⟨g1, g2, g3⟩ := crash_two (q := True) (t := headB c' s') h.ok h.short hok hlen p (j := 0) (by omega) (by
      rcases f3 0 with e | ⟨_, _, k3⟩
      · exact .inl e
      · exact .inr ⟨trivial, k3⟩)
    rw [h.head, head_snd, head_snd] at g3
    rw [h.head] at g2
    have g3' : sndH (readD (crashD (saveD D c' s') p) 0) = zerosB 64 := g3.elim id fun x => x.2
    have hlc : (crashD (saveD D c' s') p).V.length = D.V.length := by rw [crash_len]; exact hlen
    rcases g2 with g2 | ⟨_, g2⟩
    · left
      refine h.same (hok2 p) hlc (crash_short1 hok p) fun j hjl => ?_
      by_cases h0 : j = 0
      · rw [h0, h.head, sec_halves g1, sec_halves (head_len c s), g2, g3', head_snd]
      · exact hj j hjl h0
    · right
      exact h.rehead (hok2 p) hlc (crash_short1 hok p) (by rw [sec_halves g1, sec_halves (head_len c' s'), g2, g3', head_snd]) hj hi
end LogOn
end Go.Proofs.YtkkgahgpemepeaaGreat
namespace Go.Proofs.YtkkgahgpemepeaaGreat
open Go Go.RowKit Coup
theorem LogOn.put {D : Dk} {n c s : Nat} {T : List (Nat × Rec)} {G : Lg} {r : Rec} (h : LogOn D n c c s T) (hd : D.dead = false) (hG : G.count = c ∧ G.num = T.length ∧ G.at_ = atT T) (hc : c ≤ 4611686018427387904) (hn : n ≤ 4000) (hr : chsOk r) (hm : mayR r = true)
    (hfit : atT T + needN (516 * r.length) ≤ n) (hok : DkOk (putW D (1 + G.at_) (rowW G r)).1) (hok2 : ∀ p, DkOk (crashD (putW D (1 + G.at_) (rowW G r)).1 p)) :
    ((putW D (1 + G.at_) (rowW G r)).2 = true ∧ (putW D (1 + G.at_) (rowW G r)).1.dead = false ∧ LogOn (putW D (1 + G.at_) (rowW G r)).1 n c c s (T ++ [(c, r)])) ∨
    ((putW D (1 + G.at_) (rowW G r)).2 = false ∧ (putW D (1 + G.at_) (rowW G r)).1.dead = true ∧ ∀ p, LogOn (crashD (putW D (1 + G.at_) (rowW G r)).1 p) n c (c + 1) s T ∨ LogOn (crashD (putW D (1 + G.at_) (rowW G r)).1 p) n c (c + 1) s (T ++ [(c, r)])) := by
  have hl := h.len
  have hRl := rowW_len G r
  obtain ⟨hRf, hRo⟩ := rowW_flat G hr
  rw [hG.1, hG.2.1] at hRf
  rw [hG.2.2] at hok hok2 ⊢
  generalize rowW G r = R at *
  obtain ⟨P, X, hB, hP, hat, h3, h4⟩ := h.inv.ex
  have hPl := tellP_len h.inv.ok hP
  have hBl := h.inv.len
  have hXl : X.length = 128 * (n - atT T) := by
    rw [hB, List.length_append, hPl] at hBl; omega
  have hi := h.inv
  rw [hB] at hi
  have hlen := put_len D (1 + atT T) R
  rcases put_cases R (1 + atT T) hd h.short (by omega) with ⟨f1, f2, f3, f4⟩ | ⟨f1, f2, f3⟩
  · left
    refine ⟨f1, f2, hok, by rw [hlen]; exact hl, f3, ?_, ?_⟩
    · rw [f4 0 (by omega), if_neg (by omega)]; exact h.head
    · rw [logB_put h.ok hl (by omega) f4 hB hPl, hRf, hRl]
      exact inv_done hi hP hXl h3 hc hn hr hm hfit
  · right
    refine ⟨f1, f2, fun p => ?_⟩
    have hlc : (crashD (putW D (1 + atT T) R).1 p).V.length = D.V.length := by rw [crash_len]; exact hlen
    have hsec : ∀ j, j < D.V.length → (readD (crashD (putW D (1 + atT T) R).1 p) j).length = 128 ∧ (fstH (readD (crashD (putW D (1 + atT T) R).1 p) j) = fstH (readD D j) ∨ ((1 + atT T ≤ j ∧ j < 1 + atT T + R.length) ∧ fstH (readD (crashD (putW D (1 + atT T) R).1 p) j) = fstH (R.getD (j - (1 + atT T)) zeroS))) ∧
        (sndH (readD (crashD (putW D (1 + atT T) R).1 p) j) = sndH (readD D j) ∨ ((1 + atT T ≤ j ∧ j < 1 + atT T + R.length) ∧ sndH (readD (crashD (putW D (1 + atT T) R).1 p) j) = sndH (R.getD (j - (1 + atT T)) zeroS))) := fun j hj =>
      crash_two h.ok h.short hok hlen p hj (by
        rcases f3 j with e | ⟨k1, k2, k3⟩
        · exact .inl e
        · exact .inr ⟨⟨k1, k2⟩, k3⟩)
    have hok3 := hok2 p
    have hsh3 := crash_short1 hok p
    generalize crashD (putW D (1 + atT T) R).1 p = D3 at *
    have hl3 : 1 + n ≤ D3.V.length := by rw [hlc]; exact hl
    have hh0 : readD D3 0 = headB c s := by
      obtain ⟨g1, g2, g3⟩ := hsec 0 (by omega)
      have g2' := g2.elim id fun x => absurd x.1 (by omega)
      have g3' := g3.elim id fun x => absurd x.1 (by omega)
      rw [← h.head, sec_halves g1, sec_halves (readD_len h.ok (i := 0) (by omega)), g2', g3']
    have hB3l := logB_len hok3 hl3
    have hhalf : ∀ i, i < 2 * n → halfAt (logB D3 n) i = halfAt (logB D n) i ∨ ((2 * atT T ≤ i ∧ i < 2 * atT T + 2 * R.length) ∧ halfAt (logB D3 n) i = halfAt (rowB c T.length (recB r)) (i - 2 * atT T)) := fun i hi2 => by
      obtain ⟨j, hj | hj⟩ : ∃ j, i = 2 * j ∨ i = 2 * j + 1 := ⟨i / 2, by omega⟩
      · subst hj
        obtain ⟨a1, _⟩ := log_half hok3 hl3 (n := n) (j := j) (by omega)
        obtain ⟨b1, _⟩ := log_half h.ok hl (n := n) (j := j) (by omega)
        obtain ⟨_, g2, _⟩ := hsec (1 + j) (by omega)
        rw [a1, b1]
        rcases g2 with g2 | ⟨k, g2⟩
        · exact .inl g2
        · obtain ⟨q, rfl⟩ : ∃ q, j = atT T + q := ⟨j - atT T, by omega⟩
          refine .inr ⟨by omega, ?_⟩
          rw [g2, show 1 + (atT T + q) - (1 + atT T) = q by omega, show 2 * (atT T + q) - 2 * atT T = 2 * q by omega, ← hRf]
          exact (flat_half hRo (j := q) (s := R.getD q zeroS) (by rw [List.getD_eq_getElem?_getD, List.getElem?_eq_getElem (by omega)]; rfl)).1.symm
      · subst hj
        obtain ⟨_, a1⟩ := log_half hok3 hl3 (n := n) (j := j) (by omega)
        obtain ⟨_, b1⟩ := log_half h.ok hl (n := n) (j := j) (by omega)
        obtain ⟨_, _, g2⟩ := hsec (1 + j) (by omega)
        rw [a1, b1]
        rcases g2 with g2 | ⟨k, g2⟩
        · exact .inl g2
        · obtain ⟨q, rfl⟩ : ∃ q, j = atT T + q := ⟨j - atT T, by omega⟩
          refine .inr ⟨by omega, ?_⟩
          rw [g2, show 1 + (atT T + q) - (1 + atT T) = q by omega, show 2 * (atT T + q) + 1 - 2 * atT T = 2 * q + 1 by omega, ← hRf]
          exact (flat_half hRo (j := q) (s := R.getD q zeroS) (by rw [List.getD_eq_getElem?_getD, List.getElem?_eq_getElem (by omega)]; rfl)).2.symm
    have hPe : (logB D3 n).take (64 * (2 * atT T)) = P := halves_ext (2 * atT T) (by rw [List.length_take, hB3l]; omega) (by omega) fun i hi2 => by
      rw [half_take hi2]
      rcases hhalf i (by omega) with e | ⟨k, _⟩
      · rw [e, hB, half_app (by omega)]
      · omega
    have hX : logB D3 n = P ++ (logB D3 n).drop (64 * (2 * atT T)) := by
      have := List.take_append_drop (64 * (2 * atT T)) (logB D3 n)
      rw [hPe] at this; exact this.symm
    have hmx := inv_mix (X' := (logB D3 n).drop (64 * (2 * atT T))) hi hP hXl hat h3 h4 hc hn hr hm hfit (by rw [List.length_drop, hB3l, hXl]; omega) fun i hi2 => by
      rw [half_drop]
      rcases hhalf (2 * atT T + i) (by omega) with e | ⟨k, e⟩
      · left
        rw [e, hB, half_app2 (by omega)]
      · right
        exact ⟨by omega, by rw [e, show 2 * atT T + i - 2 * atT T = i by omega]⟩
    rw [← hX] at hmx
    exact hmx.elim (fun hv => .inl ⟨hok3, hl3, hsh3, hh0, hv⟩) fun hv => .inr ⟨hok3, hl3, hsh3, hh0, hv⟩
end Go.Proofs.YtkkgahgpemepeaaGreat
namespace Go.Proofs.YtkkgahgpemepeaaGreat
open Go Go.RowKit Coup Go.ChangeShapes Go.WideShapes Go.Deep
structure StepT where
  kind : Int
  n : Int
  lv : List LeafT
  picks : List Int
def StQ (W : World) (a : StepT) (cs : List Value) : Prop := ∃ q cp q2 cp2, cs = [.int .i64 a.kind, .int .i64 a.n, .slice q a.lv.length cp, .slice q2 a.picks.length cp2] ∧ ElsAt (LfQ W) W 2 q a.lv.length a.lv ∧ SlAt W q2 a.picks.length 1 (iv a.picks) ∧ okI a.picks ∧ wf64 a.kind ∧ wf64 a.n
theorem stQ_opn {H : Type} {enc : TypeId × Value → H} {W : World} {base : Nat} {spare : Nat → Bool} {held : Bool} : Opn enc Tryz.prog W base spare held 58 (StQ W) := fun fuel cs x h => by
  obtain ⟨hl, m, hf⟩ := opn_flds Tryz.underlying58 h
  have hl2 : cs.length = 4 := hl.trans (by kernel_rfl)
  obtain ⟨_, h0⟩ := fld hf 0 0 1 rfl rfl (by kernel_rfl)
  obtain ⟨_, h1⟩ := fld hf 1 1 1 rfl rfl (by kernel_rfl)
  obtain ⟨_, h2⟩ := fld hf 2 2 1 rfl rfl (by kernel_rfl)
  obtain ⟨_, h3⟩ := fld hf 3 3 1 rfl rfl (by kernel_rfl)
  obtain ⟨a, e0, w0⟩ := opn_int (by kernel_rfl) _ _ _ h0
  obtain ⟨b, e1, w1⟩ := opn_int (by kernel_rfl) _ _ _ h1
  obtain ⟨L, q, cp, e2, hcp, hL⟩ := opn_slice (e := 69) (n := 2) (by kernel_rfl) (by kernel_rfl) lfQ_opn _ _ _ h2
  obtain ⟨R, q2, cp2, e3, hcp2, hR⟩ := opn_slice (e := 3) (n := 1) (by kernel_rfl) (by kernel_rfl) (opn_int (k := .i64) (by kernel_rfl)) _ _ _ h3
  obtain ⟨hR1, hR2⟩ := el_ints hR
  refine ⟨⟨a, b, L, R⟩, q, cp, q2, cp2, ?_, hL, hR1, hR2, i64_of_wf w0, i64_of_wf w1⟩
  have k0 := cut_at cs 0 1
  have k1 := cut_at cs 1 1
  have k2 := cut_at cs 2 1
  have k3 := cut_at cs 3 1
  rw [e0] at k0
  rw [e1] at k1
  rw [e2] at k2
  rw [e3, List.drop_of_length_le (l := cs) (i := 3 + 1) (by omega), List.append_nil] at k3
  rw [k3] at k2
  rw [k2] at k1
  rw [k1] at k0
  rw [List.drop_zero] at k0
  exact k0
structure LifeT where
  fuse : Int
  steps : List StepT
  picks : List Int
def LiQ (W : World) (a : LifeT) (cs : List Value) : Prop := ∃ q cp q2 cp2, cs = [.int .i64 a.fuse, .slice q a.steps.length cp, .slice q2 a.picks.length cp2] ∧ ElsAt (StQ W) W 4 q a.steps.length a.steps ∧ SlAt W q2 a.picks.length 1 (iv a.picks) ∧ okI a.picks ∧ wf64 a.fuse
theorem openRowsS {H : Type} {enc : TypeId × Value → H} {W : World} {a : Option Addr} {len cap : Nat} {d : DataW H} {p : List MemPlace} (h : DataW.Trod enc Tryz.prog W 0 (fun _ => true) true 53 (.slice a len cap) d p) : (∃ R, ElsAt (StQ W) W 4 a len R) ∧ len ≤ cap :=
  opn_arg (by kernel_rfl) (by kernel_rfl) stQ_opn h
theorem StQ.below {w w' : World} {a : StepT} {cs : List Value} (h : StQ w a cs) (hb : Below w.heap.size w w') : StQ w' a cs := by
  obtain ⟨q, cp, q2, cp2, h1, h2, h3, h4⟩ := h
  exact ⟨q, cp, q2, cp2, h1, h2.to hb fun _ _ hq => hq.below hb, h3.below hb (Nat.le_refl _), h4⟩
theorem stsBelow {w w' : World} {p : Option Addr} {n : Nat} {R : List StepT} (h : ElsAt (StQ w) w 4 p n R) (hb : Below w.heap.size w w') : ElsAt (StQ w') w' 4 p n R := h.to hb fun _ _ hq => hq.below hb
def fewS (R : List StepT) (most : Nat) : Prop := R.length ≤ most ∧ ∀ a ∈ R, a.lv.length ≤ 62 ∧ a.picks.length ≤ 200
set_option maxRecDepth 20000 in
theorem few34 (p : Option Addr) (n cp most : Nat) (R : List StepT) (w : World) (h : ElsAt (StQ w) w 4 p n R) (hm : most ≤ 1000) :
    Calls Tryz.prog 23 [.slice p n cp, .int .i64 (most : Int)].toArray w (Ret fun v w' => ∃ B : Bool, v = .bool B ∧ (B = true → fewS R most) ∧ w = w') := by
  have hmax := h.max
  have hml : maxLen = 9223372036854775807 := by decide
  have hRl := h.1
  refine calls_W (fn := Tryz.f23) (rs := [.tmp 4]) (n := 59) Tryz.func23 rfl rfl Tryz.ntmps23 (by kernel_rfl) rfl ?_
  refine W_seq ?_
  refine W_region ?_
  refine WR_val rfl (rn_assign) ?_
  refine WR_nil ?_
  refine thenN ?_
  refine W_seq ?_
  refine W_seq ?_
  refine W_region ?_
  refine WR_val rfl (rn_assign) ?_
  refine WR_nil ?_
  refine thenN ?_
  refine W_block ?_
  refine W_loop (α := Nat) 0 (fun i => [(5, .int .i64 (i : Nat)), (0, .slice p n cp), (1, .int .i64 (most : Int))]) (fun i w' => i ≤ n ∧ (∀ (j : Nat) (a : StepT), j < i → R[j]? = some a → a.lv.length ≤ 62 ∧ a.picks.length ≤ 200) ∧ w = w') (fun i => n - i)
    ⟨rfl, rfl, rfl, rfl⟩ ⟨Nat.zero_le _, (by intro j x hj; exact absurd hj (Nat.not_lt_zero _)), rfl⟩ ?_
  rintro i f wr ⟨hi, hall, rfl⟩
  refine W_seq ?_
  refine W_seq ?_
  refine W_region ?_
  refine WR_val rfl (rn_move) ?_
  refine WR_val rfl (rn_move) ?_
  refine WR_val rfl (rn_lenSl (e := 58) (sz := 4) (by kernel_rfl) rfl rfl) ?_
  refine WR_val rfl (rn_lss rfl rfl) ?_
  refine WR_val rfl (rn_move) ?_
  refine WR_part 11 rfl (fun hlt => ?_) (fun hlt => ?_)
  ·
    refine WR_yes rfl ?_
    refine WR_val rfl (rn_move) ?_
    refine WR_yes rfl ?_
    refine WR_val rfl (rn_move) ?_
    refine WR_yes rfl ?_
    refine WR_val rfl (rn_leq rfl rfl) ?_
    refine WR_val rfl (rn_pick_t rfl) ?_
    refine WR_nil ?_
    refine thenN ?_
    refine W_ifp rfl (fun hle => ?_) (fun hle => ?_)
    ·
      refine W_skip ?_
      refine thenN ?_
      refine W_seq ?_
      refine W_block ?_
      refine W_seq ?_
      refine W_seq ?_
      have hobt := h.get (i := i) (by omega)
      obtain ⟨a, hx⟩ := hobt
      have hobt := h.some (by omega)
      obtain ⟨gp, op, rfl, _⟩ := hobt
      have hle := h.el hx
      obtain ⟨cs, ⟨q, c1, q2, c2, rfl, hq1, hq2, _⟩, hcl, hce⟩ := hle
      have hqm := hq1.max
      refine W_region ?_
      refine WR_val rfl (rn_move) ?_
      refine WR_val rfl (rn_move) ?_
      refine WR_val rfl (rn_indexSl (e := 58) (sz := 4) (by kernel_rfl) rfl rfl (i) (by omega) (by omega)) ?_
      refine WR_val rfl (rn_fieldAddr (off := 2) (by kernel_rfl) rfl) ?_
      refine WR_val rfl (rn_load rfl (Ld.one (by kernel_rfl) (hce 2 _ rfl))) ?_
      refine WR_val rfl (rn_lenSl (e := 69) (sz := 2) (by kernel_rfl) rfl rfl) ?_
      refine WR_val rfl (rn_gtr rfl rfl) ?_
      refine WR_val rfl (rn_move) ?_
      refine WR_part 25 rfl (fun h62 => ?_) (fun h62 => ?_)
      ·
        refine WR_no rfl rfl ?_
        refine WR_no rfl rfl ?_
        refine WR_no rfl rfl ?_
        refine WR_no rfl rfl ?_
        refine WR_no rfl rfl ?_
        refine WR_no rfl rfl ?_
        refine WR_no rfl rfl ?_
        refine WR_val rfl (rn_pick_t rfl) ?_
        refine WR_nil ?_
        refine thenN ?_
        refine W_tb rfl (rfl) ?_
        refine W_seq ?_
        refine W_region ?_
        refine WR_val rfl (rn_assign) ?_
        refine WR_nil ?_
        refine thenN ?_
        refine W_ret ?_
        refine thenR ?_
        refine blockR ?_
        refine thenR ?_
        refine loopR ?_
        refine blockR ?_
        refine thenR ?_
        refine ret_ret [_] ⟨rfl, trivial⟩ ?_
        exact ⟨false, rfl, by simp, rfl⟩
      ·
        refine WR_yes rfl ?_
        refine WR_val rfl (rn_move) ?_
        refine WR_yes rfl ?_
        refine WR_val rfl (rn_move) ?_
        refine WR_yes rfl ?_
        refine WR_val rfl (rn_indexSl (e := 58) (sz := 4) (by kernel_rfl) rfl rfl (i) (by omega) (by omega)) ?_
        refine WR_yes rfl ?_
        refine WR_val rfl (rn_fieldAddr (off := 3) (by kernel_rfl) rfl) ?_
        refine WR_yes rfl ?_
        refine WR_val rfl (rn_load rfl (Ld.one (by kernel_rfl) (hce 3 _ rfl))) ?_
        refine WR_yes rfl ?_
        refine WR_val rfl (rn_lenSl (e := 3) (sz := 1) (by kernel_rfl) rfl rfl) ?_
        refine WR_yes rfl ?_
        refine WR_val rfl (rn_gtr rfl rfl) ?_
        refine WR_val rfl (rn_pick_f rfl) ?_
        refine WR_nil ?_
        refine thenN ?_
        refine W_ifp rfl (fun h200 => ?_) (fun h200 => ?_)
        ·
          refine W_seq ?_
          refine W_region ?_
          refine WR_val rfl (rn_assign) ?_
          refine WR_nil ?_
          refine thenN ?_
          refine W_ret ?_
          refine thenR ?_
          refine blockR ?_
          refine thenR ?_
          refine loopR ?_
          refine blockR ?_
          refine thenR ?_
          refine ret_ret [_] ⟨rfl, trivial⟩ ?_
          exact ⟨false, rfl, by simp, rfl⟩
        ·
          refine W_skip ?_
          refine thenN ?_
          refine W_seq ?_
          refine W_region ?_
          refine WR_val rfl (rn_assign) ?_
          refine WR_nil ?_
          refine thenN ?_
          refine W_block ?_
          refine W_loop (α := Nat) 0 (fun k => [(6, .int .i64 (k : Nat)), (5, .int .i64 (i : Nat)), (0, .slice (some ⟨gp, op, none⟩) n cp), (1, .int .i64 (most : Int))]) (fun k w' => k ≤ a.lv.length ∧ w = w') (fun k => a.lv.length - k)
            ⟨rfl, rfl, rfl, rfl, rfl⟩ ⟨Nat.zero_le _, rfl⟩ ?_
          rintro k f wr ⟨hk, rfl⟩
          refine W_seq ?_
          refine W_seq ?_
          refine W_region ?_
          refine WR_val rfl (rn_move) ?_
          refine WR_val rfl (rn_move) ?_
          refine WR_val rfl (rn_move) ?_
          refine WR_val rfl (rn_indexSl (e := 58) (sz := 4) (by kernel_rfl) rfl rfl (i) (by omega) (by omega)) ?_
          refine WR_val rfl (rn_fieldAddr (off := 2) (by kernel_rfl) rfl) ?_
          refine WR_val rfl (rn_load rfl (Ld.one (by kernel_rfl) (hce 2 _ rfl))) ?_
          refine WR_val rfl (rn_lenSl (e := 69) (sz := 2) (by kernel_rfl) rfl rfl) ?_
          refine WR_val rfl (rn_lss rfl rfl) ?_
          refine WR_nil ?_
          refine thenN ?_
          refine W_ifp rfl (fun hlk => ?_) (fun hlk => ?_)
          ·
            refine W_skip ?_
            refine thenN ?_
            refine W_seq ?_
            refine W_block ?_
            refine W_seq ?_
            have hobt := hq1.get (i := k) (by omega)
            obtain ⟨b, hy⟩ := hobt
            have hobt := hq1.some (by omega)
            obtain ⟨gq, oq, rfl, _⟩ := hobt
            have hle2 := hq1.el hy
            obtain ⟨cs2, ⟨q3, c3, rfl, _⟩, hcl2, hce2⟩ := hle2
            refine W_region ?_
            refine WR_val rfl (rn_move) ?_
            refine WR_val rfl (rn_move) ?_
            refine WR_val rfl (rn_indexSl (e := 58) (sz := 4) (by kernel_rfl) rfl rfl (i) (by omega) (by omega)) ?_
            refine WR_val rfl (rn_fieldAddr (off := 2) (by kernel_rfl) rfl) ?_
            refine WR_val rfl (rn_load rfl (Ld.one (by kernel_rfl) (hce 2 _ rfl))) ?_
            refine WR_val rfl (rn_move) ?_
            refine WR_val rfl (rn_indexSl (e := 69) (sz := 2) (by kernel_rfl) rfl rfl (k) (by omega) (by omega)) ?_
            refine WR_val rfl (rn_fieldAddr (off := 1) (by kernel_rfl) rfl) ?_
            refine WR_val rfl (rn_load rfl (Ld.one (by kernel_rfl) (hce2 1 _ rfl))) ?_
            refine WR_val rfl (rn_lenSl (e := 5) (sz := 1) (by kernel_rfl) rfl rfl) ?_
            refine WR_val rfl (rn_gtr rfl rfl) ?_
            refine WR_nil ?_
            refine thenN ?_
            refine W_ifp rfl (fun h600 => ?_) (fun h600 => ?_)
            ·
              refine W_seq ?_
              refine W_region ?_
              refine WR_val rfl (rn_assign) ?_
              refine WR_nil ?_
              refine thenN ?_
              refine W_ret ?_
              refine blockR ?_
              refine thenR ?_
              refine loopR ?_
              refine blockR ?_
              refine blockR ?_
              refine thenR ?_
              refine loopR ?_
              refine blockR ?_
              refine thenR ?_
              refine ret_ret [_] ⟨rfl, trivial⟩ ?_
              exact ⟨false, rfl, by simp, rfl⟩
            ·
              refine W_skip ?_
              refine blockN ?_
              refine thenN ?_
              refine W_region ?_
              refine WR_val rfl (rn_move) ?_
              refine WR_val rfl (rn_add rfl rfl (Coup.w64 (by omega))) ?_
              refine WR_val rfl (rn_assign) ?_
              refine WR_nil ?_
              refine loopN ⟨k + 1, by omega, ⟨by go_num, rfl, rfl, rfl, rfl⟩, by omega, rfl⟩
          ·
            refine W_exit ?_
            refine thenX ?_
            refine loopX ?_
            refine blockX ?_
            refine blockN ?_
            refine thenN ?_
            refine W_region ?_
            refine WR_val rfl (rn_move) ?_
            refine WR_val rfl (rn_add rfl rfl (Coup.w64 (by omega))) ?_
            refine WR_val rfl (rn_assign) ?_
            refine WR_nil ?_
            refine loopN ⟨i + 1, by omega, ⟨by go_num, rfl, rfl, rfl⟩, by omega, (fun j x hj hx2 => ?_), rfl⟩
            by_cases hji : j = i
            · rw [hji, hx] at hx2; cases hx2; exact ⟨by omega, by omega⟩
            · exact hall j x (by omega) hx2
    ·
      refine W_exit ?_
      refine thenX ?_
      refine loopX ?_
      refine blockX ?_
      refine thenN ?_
      refine W_seq ?_
      refine W_region ?_
      refine WR_val rfl (rn_move) ?_
      refine WR_val rfl (rn_lenSl (e := 58) (sz := 4) (by kernel_rfl) rfl rfl) ?_
      refine WR_val rfl (rn_move) ?_
      refine WR_val rfl (rn_leq rfl rfl) ?_
      refine WR_val rfl (rn_assign) ?_
      refine WR_nil ?_
      refine thenN ?_
      refine W_ret ?_
      refine ret_ret [_] ⟨rfl, trivial⟩ ?_
      exact ⟨_, rfl, fun h => absurd (of_decide_eq_true h) (by omega), rfl⟩
  ·
    refine WR_no rfl rfl ?_
    refine WR_no rfl rfl ?_
    refine WR_no rfl rfl ?_
    refine WR_val rfl (rn_pick_f rfl) ?_
    refine WR_nil ?_
    refine thenN ?_
    refine W_f rfl ?_
    refine W_exit ?_
    refine thenX ?_
    refine loopX ?_
    refine blockX ?_
    refine thenN ?_
    refine W_seq ?_
    refine W_region ?_
    refine WR_val rfl (rn_move) ?_
    refine WR_val rfl (rn_lenSl (e := 58) (sz := 4) (by kernel_rfl) rfl rfl) ?_
    refine WR_val rfl (rn_move) ?_
    refine WR_val rfl (rn_leq rfl rfl) ?_
    refine WR_val rfl (rn_assign) ?_
    refine WR_nil ?_
    refine thenN ?_
    refine W_ret ?_
    refine ret_ret [_] ⟨rfl, trivial⟩ ?_
    have hin : i = n := by omega
    subst hin
    exact ⟨_, rfl, fun h => ⟨by have := of_decide_eq_true h; omega, fun a ha => by
      have hobt := List.mem_iff_getElem?.1 ha
      obtain ⟨j, hj⟩ := hobt
      exact hall j a (by have := (List.getElem?_eq_some_iff.1 hj).1; omega) hj⟩, rfl⟩
end Go.Proofs.YtkkgahgpemepeaaGreat
namespace Go.Proofs.YtkkgahgpemepeaaGreat
open Go Go.RowKit Coup
def Shel (lo : Nat) (L : List Nat) (n : Nat) (q : Option Addr) : Prop := 0 < n → ∀ b o, q = some ⟨b, o, none⟩ → b < lo ∨ b ∈ L
theorem Shel.weak {lo n : Nat} {L L2 : List Nat} {q : Option Addr} (h : Shel lo L n q) (h2 : ∀ b ∈ L, b ∈ L2) : Shel lo L2 n q := fun h0 b o e => (h h0 b o e).imp id (h2 b)
theorem Shel.kp {lo m n sz : Nat} {L M : List Nat} {q : Option Addr} {cs : List Value} {w w' : World} (h : Shel lo L n q) (hs : SlAt w q n sz cs) (k : Kp M w w') (hM : ∀ b ∈ M, ¬ (b < lo ∨ b ∈ L)) : SlAt w' q n sz cs :=
  sl_kp0 hs k fun h0 b o e hm => hM b hm (h h0 b o e)
structure RecL (lo : Nat) (L : List Nat) (w : World) (q : Option Addr) (r : Rec) : Prop where
  at_ : SlAt w q r.length 513 (chsV r)
  sh : Shel lo L r.length q
structure AllL (lo : Nat) (L : List Nat) (w : World) (p : Option Addr) (S : List Rec) : Prop where
  ex : ∃ vs, SlAt w p S.length 1 vs ∧ Shel lo L S.length p ∧ ∀ (i : Nat) r, S[i]? = some r → ∃ q c, vs[i]? = some (.slice q r.length c) ∧ RecL lo L w q r
structure AllM (lo : Nat) (L : List Nat) (w : World) (p : Option Addr) (ML : List (List Rec)) : Prop where
  ex : ∃ vs, SlAt w p ML.length 1 vs ∧ Shel lo L ML.length p ∧ ∀ (i : Nat) S, ML[i]? = some S → ∃ q c, vs[i]? = some (.slice q S.length c) ∧ AllL lo L w q S
section
variable {lo : Nat} {L L2 M : List Nat} {w w' : World} {p q : Option Addr} {r : Rec} {S : List Rec} {ML : List (List Rec)}
theorem RecL.kpd (h : RecL lo L w q r) (k : Kp M w w') (hM : ∀ b ∈ M, ¬ (b < lo ∨ b ∈ L)) : RecL lo L w' q r := ⟨Shel.kp (m := 0) h.sh h.at_ k hM, h.sh⟩
theorem AllL.kpd (h : AllL lo L w p S) (k : Kp M w w') (hM : ∀ b ∈ M, ¬ (b < lo ∨ b ∈ L)) : AllL lo L w' p S :=
  let ⟨vs, h1, h2, h3⟩ := h.ex; ⟨vs, Shel.kp (m := 0) h2 h1 k hM, h2, fun i r hr => let ⟨q, c, e, h4⟩ := h3 i r hr; ⟨q, c, e, h4.kpd k hM⟩⟩
theorem AllM.kpd (h : AllM lo L w p ML) (k : Kp M w w') (hM : ∀ b ∈ M, ¬ (b < lo ∨ b ∈ L)) : AllM lo L w' p ML :=
  let ⟨vs, h1, h2, h3⟩ := h.ex; ⟨vs, Shel.kp (m := 0) h2 h1 k hM, h2, fun i r hr => let ⟨q, c, e, h4⟩ := h3 i r hr; ⟨q, c, e, h4.kpd k hM⟩⟩
theorem RecL.new (h : RecL lo L w q r) (hb : Below w.heap.size w w') : RecL lo L w' q r := h.kpd (M := []) (Kp.of_below hb) (by simp)
theorem AllL.new (h : AllL lo L w p S) (hb : Below w.heap.size w w') : AllL lo L w' p S := h.kpd (M := []) (Kp.of_below hb) (by simp)
theorem AllM.new (h : AllM lo L w p ML) (hb : Below w.heap.size w w') : AllM lo L w' p ML := h.kpd (M := []) (Kp.of_below hb) (by simp)
theorem outL_no {n : Nat} (h2 : ∀ b ∈ L, b ∈ L2) : ∀ b ∈ outL lo L2 n, ¬ (b < lo ∨ b ∈ L) := fun b hb hx => notLL (hx.imp id (h2 b)) hb
theorem RecL.ll (h : RecL lo L w q r) (k : LoL lo L2 w w') (h2 : ∀ b ∈ L, b ∈ L2) : RecL lo L w' q r := h.kpd k.kp (outL_no h2)
theorem AllL.ll (h : AllL lo L w p S) (k : LoL lo L2 w w') (h2 : ∀ b ∈ L, b ∈ L2) : AllL lo L w' p S := h.kpd k.kp (outL_no h2)
theorem AllM.ll (h : AllM lo L w p ML) (k : LoL lo L2 w w') (h2 : ∀ b ∈ L, b ∈ L2) : AllM lo L w' p ML := h.kpd k.kp (outL_no h2)
theorem RecL.weak (h : RecL lo L w q r) (h2 : ∀ b ∈ L, b ∈ L2) : RecL lo L2 w q r := ⟨h.at_, h.sh.weak h2⟩
theorem AllL.weak (h : AllL lo L w p S) (h2 : ∀ b ∈ L, b ∈ L2) : AllL lo L2 w p S :=
  let ⟨vs, h1, h4, h3⟩ := h.ex; ⟨vs, h1, h4.weak h2, fun i r hr => let ⟨q, c, e, h5⟩ := h3 i r hr; ⟨q, c, e, h5.weak h2⟩⟩
theorem AllM.weak (h : AllM lo L w p ML) (h2 : ∀ b ∈ L, b ∈ L2) : AllM lo L2 w p ML :=
  let ⟨vs, h1, h4, h3⟩ := h.ex; ⟨vs, h1, h4.weak h2, fun i r hr => let ⟨q, c, e, h5⟩ := h3 i r hr; ⟨q, c, e, h5.weak h2⟩⟩
theorem AllL.toR (h : AllL lo L w p S) : AllR w p S := let ⟨vs, h1, _, h3⟩ := h.ex; ⟨vs, h1, fun i r hr => let ⟨q, c, e, h5⟩ := h3 i r hr; ⟨q, c, e, h5.at_⟩⟩
theorem AllL.nil (lo : Nat) (L : List Nat) (w : World) : AllL lo L w none [] := ⟨[], ⟨rfl, by decide, fun h0 => absurd h0 (by decide)⟩, fun h0 => absurd h0 (by decide), fun i r hr => by simp at hr⟩
theorem AllZ.l {C : List Nat} (h : AllZ p S w C) (hC : ∀ b ∈ C, b ∈ L) : AllL lo L w p S := by
  obtain ⟨_, vs, h2, h3, h4⟩ := h
  refine ⟨vs, h2, fun h0 b o e => .inr (hC b (h3 h0 b o e)), fun i r hr => ?_⟩
  obtain ⟨b, off, c, e1, e2, e3⟩ := h4 i r hr
  exact ⟨_, c, e1, e2, fun _ b' o' e => by cases e; exact .inr (hC _ e3)⟩
theorem own_shel {base e sz m c : Nat} {xs : List Value} (h : ownsAt w base e sz (.slice q m c) m xs) : Shel lo ((Value.slice q m c).ownBlock.toList ++ L) m q := fun _ b o e => by
  subst e
  exact .inr (List.mem_append_left _ (by simp [Value.ownBlock]))
theorem AllL.one {i : Nat} (vs : List Value) (h3 : ∀ (i : Nat) r, S[i]? = some r → ∃ q c, vs[i]? = some (.slice q r.length c) ∧ RecL lo L w q r) (hl : vs.length = S.length) : ∀ v ∈ vs, v.oneCell' = true := fun v hv => by
  obtain ⟨j, hj⟩ := List.mem_iff_getElem?.1 hv
  have hlt := (List.getElem?_eq_some_iff.1 hj).1
  obtain ⟨q, c, e, _⟩ := h3 j _ (List.getElem?_eq_getElem (by omega : j < S.length))
  rw [hj] at e
  cases e; rfl
theorem AllL.snoc {vs : List Value} {c : Nat} (hs : SlAt w p (S ++ [r]).length 1 (vs ++ [.slice q r.length c])) (hp : Shel lo L (S ++ [r]).length p) (hl : vs.length = S.length)
    (h3 : ∀ (i : Nat) r, S[i]? = some r → ∃ q c, vs[i]? = some (.slice q r.length c) ∧ RecL lo L w q r) (hr : RecL lo L w q r) : AllL lo L w p (S ++ [r]) := by
  refine ⟨_, hs, hp, fun i x hx => ?_⟩
  by_cases hi : i < S.length
  · rw [List.getElem?_append_left hi] at hx
    obtain ⟨q', c', e, h4⟩ := h3 i x hx
    exact ⟨q', c', by rw [List.getElem?_append_left (by omega)]; exact e, h4⟩
  · have hi' : i = S.length := by
      have := (List.getElem?_eq_some_iff.1 hx).1
      simp at this; omega
    subst hi'
    simp at hx
    subst hx
    exact ⟨q, c, by rw [← hl]; simp, hr⟩
theorem two_out {X Z : World → List Nat → Prop} [hZ : Thing Z] (h : Two X (AndZ None Z) lo L w) : ∃ C, Z w C ∧ Two X None lo (C ++ L) w ∧ ∀ b ∈ C, b ∉ L := by
  obtain ⟨⟨B, E, h1, ⟨C1, C2, rfl, h2, hz⟩, h3, h4⟩, h5, h6⟩ := h
  refine ⟨C2, hz, ⟨⟨B, [], h1, rfl, fun b hb => ⟨(h3 b hb).1, by simp, fun hm => ?_⟩, fun b hb => nomatch hb⟩, h5, fun b hb => ?_⟩, fun b hb => (h4 b (List.mem_append_right _ hb)).2⟩
  · rcases List.mem_append.1 hm with hm | hm
    · exact (h3 b hb).2.1 (List.mem_append_right _ hm)
    · exact (h3 b hb).2.2 hm
  · rcases List.mem_append.1 hb with hb | hb
    · exact hZ.lt hz b hb
    · exact h6 b hb
theorem LgAt.newv {g x base e sz m : Nat} {D : Dk} {G : Lg} {v : Value} {xs : List Value} (h : LgAt g x None lo L D G w) (hb : Below w.heap.size w w') (ho : ownsAt w' base e sz v m xs) (hbase : w.heap.size ≤ base) : LgAt g x None lo (v.ownBlock.toList ++ L) D G w' := by
  cases hv : v.ownBlock with
  | none => exact h.new hb
  | some b =>
    have := ho.lt b hv
    exact h.newc hb (Nat.le_trans hbase this.1) this.2
theorem Two.newv {g base e sz m : Nat} {D : Dk} {v : Value} {xs : List Value} (h : Two (DZ g D) None lo L w) (hb : Below w.heap.size w w') (ho : ownsAt w' base e sz v m xs) (hbase : w.heap.size ≤ base) : Two (DZ g D) None lo (v.ownBlock.toList ++ L) w' := by
  cases hv : v.ownBlock with
  | none => exact h.new hb
  | some b =>
    have := ho.lt b hv
    exact h.newc hb (Nat.le_trans hbase this.1) this.2
end
theorem crash_ok {D : Dk} (h : DkOk D) (p : List Int) : DkOk (crashD D p) := by
  have hv : ∀ v ∈ (crashD D p).V, ∃ s : Sec, v = [s] ∧ s.length = 128 := fun v hv => by
    obtain ⟨j, hj⟩ := List.mem_iff_getElem?.1 hv
    have hjl := (List.getElem?_eq_some_iff.1 hj).1
    rw [crash_len] at hjl
    obtain ⟨s, h1, h2, _⟩ := crash_ver h p hjl
    have : v = ver (crashD D p) j := by
      rw [ver, List.getD_eq_getElem?_getD, hj]; rfl
    exact ⟨s, this.trans h1, h2⟩
  refine ⟨by rw [crash_len]; exact h.n, fun v h1 => ?_, fun v h1 => ?_, fun v h1 => ?_⟩
  · obtain ⟨s, rfl, _⟩ := hv v h1; simp
  · obtain ⟨s, rfl, h2⟩ := hv v h1
    intro t ht
    rw [List.mem_singleton.1 ht]; exact h2
  · obtain ⟨s, rfl, _⟩ := hv v h1; simp
def CrashOk (D : Dk) (n cb : Nat) (ML : List (List Rec)) : Prop := ∀ p, ∃ c s T, c ≤ cb ∧ LogOn (crashD D p) n c (c + 1) s T ∧ T.map (·.2) ∈ ML
theorem LogOn.up {D : Dk} {n c cx s c' cx' : Nat} {T : List (Nat × Rec)} (h : LogOn D n c cx s T) (hx : cx ≤ cx') : LogOn D n c cx' s T := ⟨h.ok, h.len, h.short, h.head, h.inv.up (Nat.le_refl _) hx⟩
theorem LogOn.rest {D : Dk} {n c cx s : Nat} {T : List (Nat × Rec)} (h : LogOn D n c cx s T) (hx : cx ≤ c + 1) : CrashOk D n c [T.map (·.2)] := fun p =>
  ⟨c, s, T, Nat.le_refl _, (h.crash p (crash_ok h.ok p)).up (c' := c) hx, by simp⟩
def gOf (n c s : Nat) (T : List (Nat × Rec)) (d : Bool) : Lg := ⟨c, s, n, T.length, atT T, d⟩
theorem save_lenD (D : Dk) (c s : Nat) : (saveD D c s).V.length = D.V.length := by rw [(save_put D c s).1, put_len]
end Go.Proofs.YtkkgahgpemepeaaGreat
namespace Go.Proofs.YtkkgahgpemepeaaGreat
open Go Go.RowKit Coup
set_option maxRecDepth 20000 in
theorem room21r {y c s n a : Nat} {v : Value} {w : World} (hy : row w y [.int .u64 (c : Int), .int .u64 (s : Int), .int .i64 (n : Int), v, .int .i64 (a : Int)] 43) (hat : a ≤ n) (hn : n ≤ 4000) : Calls Tryz.prog 21 [.pointer (some ⟨y, 0, none⟩)].toArray w (Ret fun v w' => v = .int .i64 ((n - a : Nat) : Int) ∧ Below w.heap.size w w') := by
  have hB := Below.refl w.heap.size w
  refine calls_W (fn := Tryz.f21) (rs := [.tmp 2]) (n := 12) Tryz.func21 rfl rfl Tryz.ntmps21 (by kernel_rfl) rfl ?_
  refine W_seq ?_
  refine W_region ?_
  refine WR_val rfl (rn_assign) ?_
  refine WR_nil ?_
  refine thenN ?_
  refine W_seq ?_
  refine W_draw' [] (by kernel_rfl) ?_
  intro w901 hb901 hS901
  replace hy := hy.new hb901
  replace hB := hB.acc hb901
  have hy_d901 := hy
  have hB_d901 := hB
  refine WA_take 0 (by kernel_rfl) rfl (fun _ _ => rn_move) ?_
  refine WA_take 1 (by kernel_rfl) rfl (fun _ _ => rn_nilCheckP rfl) ?_
  refine WA_take 2 (by kernel_rfl) rfl (fun _ _ => rn_fieldAddr (off := 2) (by kernel_rfl) rfl) ?_
  refine WA_take 3 (by kernel_rfl) rfl (fun w' hS' => rn_load rfl (Ld.row1 (hy_d901.kpd hS' (by first | (simp; done) | (simp; omega) | (simp [*]; done) | exact notLL (Or.inl (by omega)) | exact notLL (Or.inr (by simp)) | exact fun g hm => Nat.le_trans (by omega) (inLL hm).1 | (intro b o e; cases e; exact notLL (Or.inl (by omega))) | (intro b hm; have := (hu.lt b (Option.mem_toList.1 hm)).1; omega) | (intro b o e; cases e; intro hm; have := (hu.lt _ (Option.mem_toList.1 hm)).1; omega))) (by kernel_rfl) rfl)) ?_
  refine WA_take 4 (by kernel_rfl) rfl (fun _ _ => rn_move) ?_
  refine WA_take 5 (by kernel_rfl) rfl (fun _ _ => rn_nilCheckP rfl) ?_
  refine WA_take 6 (by kernel_rfl) rfl (fun _ _ => rn_fieldAddr (off := 4) (by kernel_rfl) rfl) ?_
  refine WA_take 7 (by kernel_rfl) rfl (fun w' hS' => rn_load rfl (Ld.row1 (hy_d901.kpd hS' (by first | (simp; done) | (simp; omega) | (simp [*]; done) | exact notLL (Or.inl (by omega)) | exact notLL (Or.inr (by simp)) | exact fun g hm => Nat.le_trans (by omega) (inLL hm).1 | (intro b o e; cases e; exact notLL (Or.inl (by omega))) | (intro b hm; have := (hu.lt b (Option.mem_toList.1 hm)).1; omega) | (intro b o e; cases e; intro hm; have := (hu.lt _ (Option.mem_toList.1 hm)).1; omega))) (by kernel_rfl) rfl)) ?_
  refine WA_take 8 (by kernel_rfl) rfl (fun _ _ => rn_sub rfl rfl (Coup.w64 (by omega))) ?_
  refine WA_take 9 (by kernel_rfl) rfl (fun _ _ => rn_assign) ?_
  refine WA_done (by kernel_rfl) ?_
  refine thenN ?_
  refine W_ret ?_
  refine ret_ret [_] ⟨rfl, trivial⟩ ?_
  have he : (n : Int) - (a : Nat) = ((n - a : Nat) : Int) := by omega
  exact ⟨by show Value.int .i64 ((n : Int) - ((a : Nat) : Int)) = _; rw [he], hB⟩
theorem recs_fit {s c : Nat} : ∀ (f k m : Nat) {X : List UInt8}, X.length = m * 128 → m ≤ f → atS (recsL s c k (rowsL f X m)) ≤ m
  | 0, k, m, X, _, _ => by
    have : recsL s c k (rowsL 0 X m) = [] := rfl
    rw [this]; exact Nat.zero_le _
  | f + 1, k, m, X, hl, hf => by
    cases hj : joinIs X m with
    | false => rw [rowsL_zero hj]; exact Nat.zero_le _
    | true =>
      obtain ⟨h0, _, h3⟩ := join_facts hj
      obtain ⟨h4, h5⟩ := h3 hl
      rw [rowsL, if_pos hj]
      cases ho : okRow s c k ⟨hCount (halfAt X 0), hNum (halfAt X 0), joinB X⟩ with
      | none => rw [recsL_none ho]; exact Nat.zero_le _
      | some r =>
        rw [recsL_some ho]
        have ih := recs_fit f (k + 1) (m - needN (joinB X).length) (s := s) (c := c) (X := X.drop (128 * needN (joinB X).length)) (by rw [List.length_drop, hl]; omega) (by omega)
        have hr : ofR (joinB X) = some r := by
          unfold okRow at ho
          split at ho
          · exact ho
          · cases ho
        have hb := ofR_len hr
        have : atS (r :: recsL s c (k + 1) (rowsL f (X.drop (128 * needN (joinB X).length)) (m - needN (joinB X).length))) = needN (516 * r.length) + atS (recsL s c (k + 1) (rowsL f (X.drop (128 * needN (joinB X).length)) (m - needN (joinB X).length))) := by simp [atS]
        rw [this, ← hb]; omega
theorem recs_ok {s c : Nat} : ∀ (f k m : Nat) {X : List UInt8}, allOk (recsL s c k (rowsL f X m))
  | 0, k, m, X => fun r hr => nomatch hr
  | f + 1, k, m, X => by
    cases hj : joinIs X m with
    | false => rw [rowsL_zero hj]; exact fun r hr => nomatch hr
    | true =>
      rw [rowsL, if_pos hj]
      cases ho : okRow s c k ⟨hCount (halfAt X 0), hNum (halfAt X 0), joinB X⟩ with
      | none => rw [recsL_none ho]; exact fun r hr => nomatch hr
      | some r =>
        rw [recsL_some ho]
        have hr : ofR (joinB X) = some r := by
          unfold okRow at ho
          split at ho
          · exact ho
          · cases ho
        intro x hx
        rcases List.mem_cons.1 hx with rfl | hx
        · exact ofR_short hr
        · exact recs_ok f (k + 1) _ x hx
theorem secD_cons (D : Dk) (n : Nat) : secD D (n + 1) = readD D 0 :: secL D n := by
  rw [secD, List.range_succ_eq_map, List.map_cons, List.map_map, secL]
  congr 1
  refine List.map_congr_left fun i _ => ?_
  show readD D (i + 1) = readD D (1 + i)
  rw [Nat.add_comm]
theorem secD_take (D : Dk) {n m : Nat} (h : n ≤ m) : (secD D m).take n = secD D n := by
  rw [secD, secD, ← List.map_take, List.take_range, Nat.min_eq_left h]
theorem secD_head {D D' : Dk} {m : Nat} {H : Sec} (hm : 0 < m) (h : ∀ j, j < m → readD D' j = if j = 0 then H else readD D j) : (secD D m).set 0 H = secD D' m := by
  refine List.ext_getElem? fun j => ?_
  rw [List.getElem?_set]
  by_cases hj : j < m
  · rw [secD_get D' hj, h j hj]
    by_cases h0 : 0 = j
    · subst h0; rw [if_pos rfl, if_pos rfl, if_pos (by rw [secD_len]; exact hm)]
    · rw [if_neg h0, if_neg fun e => h0 e.symm, secD_get D hj]
  · rw [if_neg (by omega), List.getElem?_eq_none (by rw [secD_len]; omega), List.getElem?_eq_none (by rw [secD_len]; omega)]
theorem open_shut {D : Dk} (h : shortD D 1) : opI D = [] := by
  unfold opI opN
  rw [List.map_eq_nil_iff, List.filter_eq_nil_iff]
  intro i hi
  have := h.ver (List.mem_range.1 hi)
  unfold openB
  simp; omega
theorem tOpen {g lo : Nat} {L : List Nat} {D : Dk} {w : World} {Y : World → List Nat → Prop} (h : Two (DZ g D) Y lo L w) (hs : shortD D 1) : Calls Tryz.prog 16 [.pointer (some ⟨g, 0, none⟩)].toArray w (Ret fun v w' => (∃ p c, v = .slice p 0 c) ∧ Below w.heap.size w w') := by
  obtain ⟨⟨B, C, h1, h2, h3, h4⟩, h5, h6⟩ := h
  refine (openC h1).to fun v w' ⟨p, c, e, _, _, hb⟩ => ⟨⟨p, c, ?_⟩, hb⟩
  rw [e, open_shut hs]; rfl
end Go.Proofs.YtkkgahgpemepeaaGreat
namespace Go.Proofs.YtkkgahgpemepeaaGreat
open Go Go.RowKit Coup
theorem recs_num {s c : Nat} : ∀ (f k m : Nat) {X : List UInt8}, X.length = m * 128 → m ≤ f → (recsL s c k (rowsL f X m)).length ≤ m
  | 0, k, m, X, _, _ => Nat.zero_le _
  | f + 1, k, m, X, hl, hf => by
    cases hj : joinIs X m with
    | false => rw [rowsL_zero hj]; exact Nat.zero_le _
    | true =>
      obtain ⟨h0, _, h3⟩ := join_facts hj
      obtain ⟨h4, h5⟩ := h3 hl
      rw [rowsL, if_pos hj]
      cases ho : okRow s c k ⟨hCount (halfAt X 0), hNum (halfAt X 0), joinB X⟩ with
      | none => rw [recsL_none ho]; exact Nat.zero_le _
      | some r =>
        rw [recsL_some ho]
        have ih := recs_num f (k + 1) (m - needN (joinB X).length) (s := s) (c := c) (X := X.drop (128 * needN (joinB X).length)) (by rw [List.length_drop, hl]; omega) (by omega)
        rw [List.length_cons]; omega
theorem lg_out2 {Z : World → List Nat → Prop} [hZ : Thing Z] {g x lo : Nat} {L : List Nat} {D : Dk} {G : Lg} {w : World} (h : LgAt g x (AndZ None Z) lo L D G w) : ∃ C, Z w C ∧ LgAt g x None lo (C ++ L) D G w ∧ ∀ b ∈ C, b ∉ L := by
  obtain ⟨C, h1, h2, h3⟩ := two_out h.two
  refine ⟨C, h1, ⟨h2.weak fun b hb => ?_, h.rowx, h.ge, fun hm => ?_⟩, fun b hb hm => h3 b hb (List.mem_cons_of_mem _ hm)⟩
  · rcases List.mem_cons.1 hb with rfl | hb
    · exact List.mem_append_right _ (List.mem_cons_self ..)
    · rcases List.mem_append.1 hb with hb | hb
      · exact List.mem_append_left _ hb
      · exact List.mem_append_right _ (List.mem_cons_of_mem _ hb)
  · rcases List.mem_append.1 hm with hm | hm
    · exact h3 x hm (List.mem_cons_self ..)
    · exact h.ni hm
end Go.Proofs.YtkkgahgpemepeaaGreat
