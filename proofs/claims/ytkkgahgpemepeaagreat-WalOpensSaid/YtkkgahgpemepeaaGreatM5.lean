/- Texts of one proof, laid one behind the other: WalZh, WalZt, WalZi, WalZf, WalZk, WalZl, WalZj, WalZm, WalZn, WalZo, WalZp, WalZu, WalZv. -/
import Derived.Test.YtkkgahgpemepeaaGreatM4
/- A disk's first sectors; are two lists of sectors the same; are there few steps. -/
namespace Go.Proofs.YtkkgahgpemepeaaGreat
open Go Go.RowKit Coup

def secD (D : Dk) (n : Nat) : List Sec := (List.range n).map fun i => readD D i
theorem secD_succ (D : Dk) (n : Nat) : secD D (n + 1) = secD D n ++ [readD D n] := by simp [secD, List.range_succ]
theorem secD_len (D : Dk) (n : Nat) : (secD D n).length = n := by simp [secD]
theorem secD_get (D : Dk) {n i : Nat} (h : i < n) : (secD D n)[i]? = some (readD D i) := by rw [secD, List.getElem?_map, List.getElem?_range h]; rfl
theorem secD_ok {D : Dk} (h : DkOk D) {n : Nat} (hn : n ≤ D.V.length) : secsOk (secD D n) := fun s hs => by
  obtain ⟨i, hi, rfl⟩ := List.mem_map.1 hs
  have := List.mem_range.1 hi
  exact readD_len h (by omega)
section
variable {Y : World → List Nat → Prop} [Thing Y] {g lo : Nat} {L : List Nat} {D : Dk} {w : World}
set_option maxRecDepth 20000 in
set_option maxHeartbeats 1000000 in
theorem sectors31 (h : Two (DZ g D) Y lo L w) (n : Nat) (hn : n ≤ D.V.length) (hn2 : D.V.length ≤ 1000000) :
    Calls Tryz.prog 9 [.pointer (some ⟨g, 0, none⟩), .int .i64 (n : Int)].toArray w (Ret fun v w' => ownsAt w' w.heap.size 45 128 v n (bv (secD D n).flatten) ∧ Below w.heap.size w w') := by
  have hB := Below.refl w.heap.size w
  have hml : maxLen = 9223372036854775807 := by decide
  have hTw := fun w' (hb : Below w.heap.size w w') i => tRead (h.new hb) i
  have hDk := (tOk h).1
  have hfl : ∀ k, (secD D (k + 1)).flatten = (secD D k).flatten ++ readD D k := fun k => by rw [secD_succ, List.flatten_append]; simp
  have hf0 : (secD D 0).flatten = [] := rfl
  refine calls_W (fn := Tryz.f9) (rs := [.tmp 4]) (n := 25) Tryz.func9 rfl rfl Tryz.ntmps9 (by kernel_rfl) rfl ?_
  refine W_seq ?_
  refine W_region ?_
  refine WR_val rfl (rn_assign) ?_
  refine WR_nil ?_
  refine thenN ?_
  refine W_seq ?_
  refine W_region ?_
  refine WR_val rfl (rn_assign) ?_
  refine WR_nil ?_
  refine thenN ?_
  refine W_seq ?_
  refine W_seq ?_
  refine W_region ?_
  refine WR_val rfl (rn_assign) ?_
  refine WR_nil ?_
  refine thenN ?_
  refine W_block ?_
  refine W_loop (α := Nat × Value) (0, .slice none 0 0) (fun k => [(6, .int .i64 (k.1 : Nat)), (5, k.2), (0, .pointer (some ⟨g, 0, none⟩)), (1, .int .i64 (n : Nat))])
    (fun k w' => k.1 ≤ n ∧ ownsAt w' w.heap.size 45 128 k.2 k.1 (bv (secD D k.1).flatten) ∧ Below w.heap.size w w') (fun k => n - k.1) ⟨rfl, rfl, rfl, rfl, rfl⟩ ⟨Nat.zero_le _, ownsAt_nil _ _ _ _, hB⟩ ?_
  clear hB
  rintro ⟨i, u⟩ f wr ⟨hi, hu, hB⟩
  dsimp only at *
  have hin : inD D (i : Int) = decide (i < D.V.length) := by unfold inD; exact decide_eq_decide.2 ⟨fun h => by omega, fun h => ⟨by omega, by omega⟩⟩
  have hBr := Below.refl wr.heap.size wr
  refine W_seq ?_
  refine W_seq ?_
  refine W_region ?_
  refine WR_val rfl (rn_move) ?_
  refine WR_val rfl (rn_move) ?_
  refine WR_val rfl (rn_lss rfl rfl) ?_
  refine WR_nil ?_
  refine thenN ?_
  refine W_ifp rfl (fun hlt => ?_) (fun hlt => ?_)
  ·
    refine W_skip ?_
    refine thenN ?_
    refine W_seq ?_
    refine W_block ?_
    refine W_seq ?_
    have hrd := hTw wr hB (i : Int)
    have hif : i < n := by omega
    have hrl := readD_len hDk (i := i) (by omega)
    rw [hin, decide_eq_true (by omega), if_pos rfl, if_pos rfl, Int.toNat_natCast] at hrd
    have hfi := hfl i
    have hob : ∃ s, readD D i = s := ⟨_, rfl⟩
    obtain ⟨s, hs⟩ := hob
    rw [hs] at hrd hfi hrl
    have hbl : (bv s).length = 128 := by rw [bv_length]; exact hrl
    refine W_region ?_
    refine WR_val rfl (rn_move) ?_
    refine WR_val rfl (rn_move) ?_
    refine WR_ent rfl (rn_call (by kernel_rfl) rfl) (hrd) ?_
    rintro _ w17 ⟨rfl, hb17⟩
    replace hB := hB.acc hb17
    replace hBr := hBr.acc hb17
    refine WR_val rfl (rn_move) ?_
    refine WR_val rfl (rn_extract rfl rfl) ?_
    refine WR_val rfl (rn_extract rfl rfl) ?_
    refine WR_mk rfl (mk_alloc (List.replicate 128 (Value.int .u8 0)) (by kernel_rfl) (fun g7 w7 hg7 hr7 hb7 => ?_))
    have ge_hB_g7 := Nat.le_trans hB.size hg7
    have ge_hBr_g7 := Nat.le_trans hBr.size hg7
    replace hB := hB.acc hb7
    replace hBr := hBr.acc hb7
    refine WR_sk rfl (sk_storeA 128 (bv s) rfl rfl hr7 (by kernel_rfl) (by first | assumption | (simp; done) | (simp [bv_length, *]; done)) (by first | assumption | (simp; done) | (simp [bv_length, *]; done) | rfl) (by first | exact bv_one _ | assumption | (simp [Value.oneCell']; done)) (fun w901 hr7 ho901 => ?_))
    replace hB := ho901.below hB ge_hB_g7
    replace hBr := ho901.below hBr ge_hBr_g7
    refine WR_val rfl (rn_assign) ?_
    refine WR_nil ?_
    refine thenN ?_
    refine W_region ?_
    refine WR_val rfl (rn_move) ?_
    refine WR_val rfl (rn_load rfl (Ld.rowA (k := 128) hr7 (by kernel_rfl) (by kernel_rfl) (by first | (simp; done) | (simp [bv_length, *]; done) | assumption))) ?_
    refine WR_mk rfl (mk_one (e := 45) (.agg (bv s).toArray) (bv s) (List.replicate 128 (Value.int .u8 0)) 128 (by kernel_rfl) (by kernel_rfl) rfl rfl (by first | rfl | (simp; done) | (simp [bv_length, *]; done)) ⟨by decide, by decide⟩ (fun g22 w22 hg22 hr22 hb22 => ?_))
    have ge_hB_g22 := Nat.le_trans hB.size hg22
    have ge_hBr_g22 := Nat.le_trans hBr.size hg22
    have lt_g7_g22 : g7 < g22 := Nat.lt_of_lt_of_le hr7.lt hg22
    replace hr7 := hr7.new hb22
    replace hB := hB.acc hb22
    replace hBr := hBr.acc hb22
    have hs24 := hr22.slA (m := 1) (sz := 128) hbl (by omega)
    have hu1 : ∀ v ∈ bv s, v.oneCell' = true := bv_one _
    replace hu := hu.new hBr
    have hbz := hBr.size
    have hbz2 := hB.size
    have sz_hB_23 := hB.size
    refine WR_mk rfl (mk_append (e := 45) (sz := 128) (bytes := 128) (z := .agg (List.replicate 128 (Value.int .u8 0)).toArray) (by kernel_rfl) rfl (by kernel_rfl) rfl (by decide) rfl hu rfl hs24 hu1 (by unfold maxLen; omega) (by omega) (fun hm0 => by omega) (fun v23 w23 hv23 hgr23 hfr23 => ?_))
    replace hB := hB.own hu hgr23 (by omega)
    refine WR_val rfl (rn_assign) ?_
    refine WR_nil ?_
    refine blockN ?_
    refine thenN ?_
    refine W_region ?_
    refine WR_val rfl (rn_move) ?_
    refine WR_val rfl (rn_add rfl rfl (Coup.w64 (by omega))) ?_
    refine WR_val rfl (rn_assign) ?_
    refine WR_nil ?_
    rw [← bv_append, ← hfi] at hv23
    refine loopN ⟨(i + 1, v23), by show n - (i + 1) < n - i; omega, ⟨by go_num, rfl, rfl, rfl, rfl⟩, by show i + 1 ≤ n; omega, hv23, hB⟩
  ·
    have hin : i = n := by omega
    subst hin
    refine W_exit ?_
    refine thenX ?_
    refine loopX ?_
    refine blockX ?_
    refine thenN ?_
    refine W_seq ?_
    refine W_region ?_
    refine WR_val rfl (rn_move) ?_
    refine WR_val rfl (rn_assign) ?_
    refine WR_nil ?_
    refine thenN ?_
    refine W_ret ?_
    refine ret_ret [_] ⟨rfl, trivial⟩ ?_
    exact ⟨hu, hB⟩
end
set_option maxRecDepth 20000 in
set_option maxHeartbeats 1000000 in
theorem same33 (A B : List Sec) (hA : secsOk A) (hB2 : secsOk B) (p q : Option Addr) (n m c d : Nat) (w : World) (h : SlAt w p n 128 (bv A.flatten)) (k : SlAt w q m 128 (bv B.flatten)) (hn : A.length = n) (hm : B.length = m) (hn2 : n ≤ 1000000) :
    Calls Tryz.prog 12 [.slice p n c, .slice q m d].toArray w (Ret fun v w' => (∃ b, v = .bool b ∧ (b = true ↔ A = B)) ∧ Below w.heap.size w w') := by
  have hB := Below.refl w.heap.size w
  refine calls_W (fn := Tryz.f12) (rs := [.tmp 4]) (n := 26) Tryz.func12 rfl rfl Tryz.ntmps12 (by kernel_rfl) rfl ?_
  refine W_seq ?_
  refine W_region ?_
  refine WR_val rfl (rn_assign) ?_
  refine WR_nil ?_
  refine thenN ?_
  refine W_seq ?_
  refine W_seq ?_
  refine W_region ?_
  refine WR_val rfl (rn_move) ?_
  refine WR_val rfl (rn_lenSl (e := 45) (sz := 128) (by kernel_rfl) rfl rfl) ?_
  refine WR_val rfl (rn_move) ?_
  refine WR_val rfl (rn_lenSl (e := 45) (sz := 128) (by kernel_rfl) rfl rfl) ?_
  refine WR_val rfl (rn_neq rfl rfl) ?_
  refine WR_nil ?_
  refine thenN ?_
  refine W_ifp rfl (fun hne => ?_) (fun hne => ?_)
  ·
    refine W_seq ?_
    refine W_region ?_
    refine WR_val rfl (rn_assign) ?_
    refine WR_nil ?_
    refine thenN ?_
    refine W_ret ?_
    refine thenR ?_
    refine ret_ret [_] ⟨rfl, trivial⟩ ?_
    exact ⟨⟨false, rfl, by constructor; · intro h; cases h
                           · intro h; rw [h] at hn; omega⟩, hB⟩
  ·
    have hnm : n = m := by omega
    subst hnm
    refine W_skip ?_
    refine thenN ?_
    refine W_seq ?_
    refine W_seq ?_
    refine W_region ?_
    refine WR_val rfl (rn_assign) ?_
    refine WR_nil ?_
    refine thenN ?_
    refine W_block ?_
    refine W_loop (α := Nat) 0 (fun i => [(5, .int .i64 (i : Nat)), (0, .slice p n c), (1, .slice q n d)]) (fun i w' => i ≤ n ∧ (∀ j, j < i → A[j]? = B[j]?) ∧ Below w.heap.size w w') (fun i => n - i) ⟨rfl, rfl, rfl, rfl⟩ ⟨Nat.zero_le _, (fun j hj => by omega), hB⟩ ?_
    clear hB
    rintro i f wr ⟨hi, hall, hB⟩
    refine W_seq ?_
    refine W_seq ?_
    refine W_region ?_
    refine WR_val rfl (rn_move) ?_
    refine WR_val rfl (rn_move) ?_
    refine WR_val rfl (rn_lenSl (e := 45) (sz := 128) (by kernel_rfl) rfl rfl) ?_
    refine WR_val rfl (rn_lss rfl rfl) ?_
    refine WR_nil ?_
    refine thenN ?_
    refine W_ifp rfl (fun hlt => ?_) (fun hlt => ?_)
    ·
      refine W_skip ?_
      refine thenN ?_
      refine W_seq ?_
      refine W_block ?_
      refine W_seq ?_
      have hp := h.below hB (Nat.le_refl _)
      have hq := k.below hB (Nat.le_refl _)
      have hobt := hp.some (by omega)
      obtain ⟨gp, op, rfl, hgp⟩ := hobt
      have hobt := hq.some (by omega)
      obtain ⟨gq, oq, rfl, hgq⟩ := hobt
      have hobt : ∃ a, A[i]? = some a := ⟨_, List.getElem?_eq_getElem (by omega)⟩
      obtain ⟨a, ha⟩ := hobt
      have hobt : ∃ b, B[i]? = some b := ⟨_, List.getElem?_eq_getElem (by omega)⟩
      obtain ⟨b, hb⟩ := hobt
      have hal := hA a (List.mem_of_getElem? ha)
      have hbl := hB2 b (List.mem_of_getElem? hb)
      refine W_draw' [] (by kernel_rfl) ?_
      intro w901 hb901 hS901
      replace hp := hp.new hb901
      replace hq := hq.new hb901
      replace hB := hB.acc hb901
      have hp_d901 := hp
      have hq_d901 := hq
      have hB_d901 := hB
      refine WA_take 0 (by kernel_rfl) rfl (fun _ _ => rn_move) ?_
      refine WA_take 1 (by kernel_rfl) rfl (fun _ _ => rn_move) ?_
      refine WA_take 2 (by kernel_rfl) rfl (fun _ _ => rn_indexSl (e := 45) (sz := 128) (by kernel_rfl) rfl rfl (i) (by omega) (by omega)) ?_
      refine WA_take 3 (by kernel_rfl) rfl (fun w' hS' => rn_load rfl (ld_sec (hp_d901.kpd hS' (by first | (simp; done) | (simp; omega) | (simp [*]; done) | exact notLL (Or.inl (by omega)) | exact notLL (Or.inr (by simp)) | exact fun g hm => Nat.le_trans (by omega) (inLL hm).1 | (intro b o e; cases e; exact notLL (Or.inl (by omega))) | (intro b hm; have := (hu.lt b (Option.mem_toList.1 hm)).1; omega) | (intro b o e; cases e; intro hm; have := (hu.lt _ (Option.mem_toList.1 hm)).1; omega))) hA ha)) ?_
      refine WA_take 4 (by kernel_rfl) rfl (fun _ _ => rn_move) ?_
      refine WA_take 5 (by kernel_rfl) rfl (fun _ _ => rn_move) ?_
      refine WA_take 6 (by kernel_rfl) rfl (fun _ _ => rn_indexSl (e := 45) (sz := 128) (by kernel_rfl) rfl rfl (i) (by omega) (by omega)) ?_
      refine WA_take 7 (by kernel_rfl) rfl (fun w' hS' => rn_load rfl (ld_sec (hq_d901.kpd hS' (by first | (simp; done) | (simp; omega) | (simp [*]; done) | exact notLL (Or.inl (by omega)) | exact notLL (Or.inr (by simp)) | exact fun g hm => Nat.le_trans (by omega) (inLL hm).1 | (intro b o e; cases e; exact notLL (Or.inl (by omega))) | (intro b hm; have := (hu.lt b (Option.mem_toList.1 hm)).1; omega) | (intro b o e; cases e; intro hm; have := (hu.lt _ (Option.mem_toList.1 hm)).1; omega))) hB2 hb)) ?_
      refine WA_take 8 (by kernel_rfl) rfl (fun _ _ => rn_neqA (n := 128) (by kernel_rfl) rfl rfl hal hbl) ?_
      refine WA_done (by kernel_rfl) ?_
      refine thenN ?_
      refine W_ifn rfl (fun hd => ?_) (fun hd => ?_)
      ·
        refine W_seq ?_
        refine W_region ?_
        refine WR_val rfl (rn_assign) ?_
        refine WR_nil ?_
        refine thenN ?_
        refine W_ret ?_
        refine blockR ?_
        refine thenR ?_
        refine loopR ?_
        refine blockR ?_
        refine thenR ?_
        refine ret_ret [_] ⟨rfl, trivial⟩ ?_
        exact ⟨⟨false, rfl, by constructor; · intro h; cases h
                               · intro h; subst h; rw [ha] at hb; cases hb; exact absurd rfl hd⟩, hB⟩
      ·
        have hab : a = b := by simpa using hd
        refine W_skip ?_
        refine blockN ?_
        refine thenN ?_
        refine W_region ?_
        refine WR_val rfl (rn_move) ?_
        refine WR_val rfl (rn_add rfl rfl (Coup.w64 (by omega))) ?_
        refine WR_val rfl (rn_assign) ?_
        refine WR_nil ?_
        refine loopN ⟨i + 1, by omega, ⟨by go_num, rfl, rfl, rfl⟩, by omega, (fun j hj => ?_), hB⟩
        by_cases hji : j = i
        · rw [hji, ha, hb, hab]
        · exact hall j (by omega)
    ·
      have hin : i = n := by omega
      subst hin
      refine W_exit ?_
      refine thenX ?_
      refine loopX ?_
      refine blockX ?_
      refine thenN ?_
      refine W_seq ?_
      refine W_region ?_
      refine WR_val rfl (rn_assign) ?_
      refine WR_nil ?_
      refine thenN ?_
      refine W_ret ?_
      refine ret_ret [_] ⟨rfl, trivial⟩ ?_
      refine ⟨⟨true, rfl, by constructor; · intro _; exact List.ext_getElem? fun j => (by
                                              by_cases hj : j < i
                                              · exact hall j hj
                                              · rw [List.getElem?_eq_none (by omega), List.getElem?_eq_none (by omega)])
                             · intro _; rfl⟩, hB⟩
end Go.Proofs.YtkkgahgpemepeaaGreat

/- The reference: what a log says by its sectors. -/
namespace Go.Proofs.YtkkgahgpemepeaaGreat
open Go Go.RowKit Coup

theorem ofR_len {b : List UInt8} {r : Rec} (h : ofR b = some r) : b.length = 516 * r.length := by
  by_cases h5 : b.length % 516 = 0
  · have hb : b.length = 516 * (b.length / 516) := by omega
    have he := ofR_eq b _ hb
    rw [h] at he
    split at he
    · have hr := Option.some.inj he
      rw [hr, ofL_len]; exact hb
    · cases he
  · rw [ofR, ofOk, decide_eq_false h5] at h
    cases h
theorem recs_stop {s c k m : Nat} {X : List UInt8} (h : joinIs X m = false) : recsL s c k (rowsL m X m) = [] := by rw [rowsL_zero h]; rfl
theorem recs_bad {s c k m : Nat} {X : List UInt8} (hj : joinIs X m = true) (h : okRow s c k ⟨hCount (halfAt X 0), hNum (halfAt X 0), joinB X⟩ = none) : recsL s c k (rowsL m X m) = [] := by
  cases m with
  | zero => rfl
  | succ m => rw [rowsL, if_pos hj, recsL_none h]
theorem recs_next {s c k m : Nat} {X : List UInt8} {r : Rec} (hj : joinIs X m = true) (hl : X.length = m * 128) (h : okRow s c k ⟨hCount (halfAt X 0), hNum (halfAt X 0), joinB X⟩ = some r) :
    recsL s c k (rowsL m X m) = r :: recsL s c (k + 1) (rowsL (m - needN (joinB X).length) (X.drop (128 * needN (joinB X).length)) (m - needN (joinB X).length)) := by
  obtain ⟨h0, _, h3⟩ := join_facts hj
  obtain ⟨h4, h5⟩ := h3 hl
  obtain ⟨m, rfl⟩ : ∃ z, m = z + 1 := ⟨m - 1, by omega⟩
  rw [rowsL, if_pos hj, recsL_some h, rowsL_fuel m _ _ _ (by omega) (Nat.le_refl _) (by rw [List.length_drop, hl]; omega)]
def rlV (c s n : Nat) (v : Value) (at_ : Nat) : List Value := [.int .u64 (c : Int), .int .u64 (s : Int), .int .i64 (n : Int), v, .int .i64 (at_ : Int)]
/-- What the reference's log is, in blocks of its own. -/
structure SaysAt (w : World) (y c s n : Nat) (p : Option Addr) (cp : Nat) (S : List Rec) (C : List Nat) : Prop where
  row : row w y (rlV c s n (.slice p S.length cp) (atS S)) 43
  inC : y ∈ C
  all : AllZ p S w C
theorem rof16c (b : List UInt8) (p : Option Addr) (n cp : Nat) (w : World) (h : SlAt w p n 1 (bv b)) (hcp : n ≤ cp) (hn2 : n ≤ 1000000) :
    Calls Tryz.prog 47 [.slice p n cp].toArray w (Ret fun v w' => (∃ x k c e r, v = .tuple #[.slice x k c, .bool e] ∧ k = r.length ∧ SlAt w' x k 513 (chsV r) ∧ (∀ b o, x = some ⟨b, o, none⟩ → w.heap.size ≤ b) ∧ ((ofR b = some r ∧ e = true) ∨ (ofR b = none ∧ r = [] ∧ e = false))) ∧ Below w.heap.size w w') :=
  (rof16 b p n cp w h hcp hn2).to fun v w' ⟨hh, hb⟩ => ⟨hh.elim (fun ⟨r, x, c, h1, h2, h4, h5⟩ => ⟨_, _, c, true, r, h2, rfl, h4, h5, .inl ⟨h1, rfl⟩⟩) fun ⟨h1, h2⟩ => ⟨none, 0, 0, false, [], h2, rfl, ⟨rfl, by decide, fun h0 => absurd h0 (by decide)⟩, fun b o e => (nomatch e), .inr ⟨h1, rfl, rfl⟩⟩, hb⟩
/-- Slices of records, each in a block of its own from lo on, other than o. -/
structure RlS (w : World) (lo : Nat) (o : Option Nat) (vs : List Value) (T : List Rec) : Prop where
  len : vs.length = T.length
  at_ : ∀ (i : Nat) l, T[i]? = some l → ∃ q c, vs[i]? = some (.slice q l.length c) ∧ SlAt w q l.length 513 (chsV l) ∧ 0 < l.length ∧ ∀ b off, q = some ⟨b, off, none⟩ → lo ≤ b ∧ b < w.heap.size ∧ some b ≠ o
namespace RlS
variable {w w' : World} {lo : Nat} {o : Option Nat} {vs : List Value} {T : List Rec}
theorem nil (w : World) (lo : Nat) (o : Option Nat) : RlS w lo o [] [] := ⟨rfl, fun i l h => by simp at h⟩
theorem kpd {M : List Nat} (h : RlS w lo o vs T) (k : Kp M w w') (hM : ∀ b ∈ M, b < lo ∨ w.heap.size ≤ b ∨ o = some b) : RlS w' lo o vs T := ⟨h.len, fun i l hl => by
  obtain ⟨q, c, e, h2, h0, h3⟩ := h.at_ i l hl
  refine ⟨q, c, e, h2.kpd k fun b off e hm => ?_, h0, fun b off e => ⟨(h3 b off e).1, Nat.lt_of_lt_of_le (h3 b off e).2.1 k.size, (h3 b off e).2.2⟩⟩
  obtain ⟨a1, a2, a3⟩ := h3 b off e
  rcases hM b hm with x | x | x
  · omega
  · omega
  · exact a3 x.symm⟩
theorem new (h : RlS w lo o vs T) (hb : Below w.heap.size w w') : RlS w' lo o vs T := h.kpd (M := []) (Kp.of_below hb) (by simp)
theorem only {g : Nat} (h : RlS w lo o vs T) (ho : Only g w w') (hg : g < lo ∨ w.heap.size ≤ g) : RlS w' lo o vs T := h.kpd (Kp.of_only ho) fun b hb => by rw [List.mem_singleton.1 hb]; exact hg.imp id Or.inl
theorem grow {v v' : Value} (h : RlS w lo v.ownBlock vs T) (hg : w.grownBy w' v.ownBlock) (hf : ∀ g, v'.ownBlock = some g → v.ownBlock = some g ∨ w.heap.size ≤ g) : RlS w' lo v'.ownBlock vs T :=
  let h' := h.kpd (Kp.of_grown hg) fun b hb => .inr (.inr (Option.mem_toList.1 hb))
  ⟨h.len, fun i l hl => by
    obtain ⟨q, c, e, h2, h0, h3⟩ := h'.at_ i l hl
    obtain ⟨q1, c1, e1, _, _, h31⟩ := h.at_ i l hl
    rw [e1] at e
    cases e
    refine ⟨q, _, e1, h2, h0, fun b off e => ⟨(h3 b off e).1, (h3 b off e).2.1, fun hb => ?_⟩⟩
    rcases hf b hb.symm with x | x
    · exact (h3 b off e).2.2 x.symm
    · have := (h31 b off e).2.1; omega⟩
theorem snoc {q : Option Addr} {c : Nat} {l : Rec} (h : RlS w lo o vs T) (h2 : SlAt w q l.length 513 (chsV l)) (h0 : 0 < l.length) (h3 : ∀ b off, q = some ⟨b, off, none⟩ → lo ≤ b ∧ b < w.heap.size ∧ some b ≠ o) : RlS w lo o (vs ++ [.slice q l.length c]) (T ++ [l]) :=
  ⟨by simp [h.len], fun i l' hl => by
    by_cases hi : i < T.length
    · rw [List.getElem?_append_left hi] at hl
      obtain ⟨q', c', e1, e2⟩ := h.at_ i l' hl
      exact ⟨q', c', by rw [List.getElem?_append_left (by rw [h.len]; exact hi)]; exact e1, e2⟩
    · have hi' : i = T.length := by
        have := (List.getElem?_eq_some_iff.1 hl).1
        simp at this; omega
      subst hi'
      simp at hl
      subst hl
      exact ⟨q, c, by rw [← h.len]; simp, h2, h0, h3⟩⟩
/-- All that is there, as a thing. -/
theorem thing {base e lo' : Nat} {p : Option Addr} {c : Nat} (h : RlS w lo (Value.ownBlock (.slice p T.length c)) vs T) (hv : ownsAt w base e 1 (.slice p T.length c) T.length vs) (hlo : lo ≤ base) (hlo' : lo' ≤ lo) : AllZ p T w (List.range' lo' (w.heap.size - lo')) := by
  have hC : ∀ b, lo ≤ b → b < w.heap.size → b ∈ List.range' lo' (w.heap.size - lo') := fun b h1 h2 => List.mem_range'_1.2 ⟨by omega, by omega⟩
  refine ⟨fun b hb => by have := List.mem_range'_1.1 hb; omega, vs, hv.sl, fun h0 b o e => ?_, fun i r hi => ?_⟩
  · subst e
    have := hv.lt b rfl
    exact hC b (by omega) this.2
  · obtain ⟨q, c, e, h2, h0, h3⟩ := h.at_ i r hi
    obtain ⟨b, off, rfl, _⟩ := h2.some (by omega)
    obtain ⟨a1, a2, _⟩ := h3 b off rfl
    exact ⟨b, off, c, e, h2, hC b a1 a2⟩
end RlS
set_option maxRecDepth 20000 in
set_option maxHeartbeats 2000000 in
theorem rsays13 (s0 : Sec) (SL : List Sec) (hok : secsOk (s0 :: SL)) (n : Nat) (hn : SL.length = n) (hn2 : n ≤ 4000) (p : Option Addr) (N cp : Nat) (hN : N = n + 1) (hcp : N ≤ cp) (w : World) (h : SlAt w p N 128 (bv (s0 :: SL).flatten)) :
    Calls Tryz.prog 13 [.slice p N cp].toArray w (Ret fun v w' => (∃ vy e, v = .tuple #[vy, .bool e] ∧ ((e = false ∧ hdIs s0 = false ∧ vy = .pointer none) ∨ (e = true ∧ hdIs s0 = true ∧ ∃ y pr cr, vy = .pointer (some ⟨y, 0, none⟩) ∧
      SaysAt w' y (hdC s0) (hdS s0) n pr cr (recsL (hdS s0) (hdC s0) 0 (rowsL n SL.flatten n)) (List.range' w.heap.size (w'.heap.size - w.heap.size))))) ∧ Below w.heap.size w w') := by
  have hB := Below.refl w.heap.size w
  have hml : maxLen = 9223372036854775807 := by decide
  have hs0 : s0.length = 128 := hok s0 (List.mem_cons_self ..)
  have hh := fun w' => rheadOf45 s0 w' hs0
  have hfl : (s0 :: SL).flatten = s0 ++ SL.flatten := List.flatten_cons ..
  have hSl : SL.flatten.length = 128 * n := by rw [flat_len (fun x hx => hok x (List.mem_cons_of_mem _ hx)), hn, Nat.mul_comm]
  have hld := fun g o w' (hs : SlAt w' (some ⟨g, o, none⟩) N 128 (bv (s0 :: SL).flatten)) => ld_sec hs hok (i := 0) rfl
  obtain ⟨gp, op, rfl, hgp⟩ := h.some (by omega)
  refine calls_W (fn := Tryz.f13) (rs := [.tmp 2, .tmp 3]) (n := 96) Tryz.func13 rfl rfl Tryz.ntmps13 (by kernel_rfl) rfl ?_
  refine W_seq ?_
  refine W_region ?_
  refine WR_val rfl (rn_assign) ?_
  refine WR_val rfl (rn_assign) ?_
  refine WR_nil ?_
  refine thenN ?_
  refine W_seq ?_
  refine W_region ?_
  refine WR_val rfl (rn_move) ?_
  refine WR_val rfl (rn_indexSl (e := 45) (sz := 128) (by kernel_rfl) rfl rfl (0) (by omega) (by omega)) ?_
  refine WR_val rfl (rn_load rfl (hld _ _ _ h)) ?_
  refine WR_ent rfl (rn_call (by kernel_rfl) rfl) (hh w) ?_
  rintro _ w18 ⟨rfl, hb18⟩
  replace hB := hB.acc hb18
  refine WR_val rfl (rn_move) ?_
  refine WR_val rfl (rn_extract rfl rfl) ?_
  refine WR_val rfl (rn_extract rfl rfl) ?_
  refine WR_val rfl (rn_extract rfl rfl) ?_
  refine WR_val rfl (rn_assign) ?_
  refine WR_val rfl (rn_assign) ?_
  refine WR_val rfl (rn_assign) ?_
  refine WR_nil ?_
  refine thenN ?_
  refine W_seq ?_
  refine W_seq ?_
  refine W_region ?_
  refine WR_val rfl (rn_move) ?_
  refine WR_val rfl (rn_not rfl) ?_
  refine WR_nil ?_
  refine thenN ?_
  refine W_ifnb rfl (fun hf => ?_) (fun hf => ?_)
  ·
    refine W_seq ?_
    refine W_region ?_
    refine WR_val rfl (rn_assign) ?_
    refine WR_val rfl (rn_assign) ?_
    refine WR_nil ?_
    refine thenN ?_
    refine W_ret ?_
    refine thenR ?_
    refine ret_ret [_, _] ⟨rfl, rfl, trivial⟩ ?_
    have hf2 : hdIs s0 = false := by cases hx : hdIs s0 with | false => rfl | true => rw [hx] at hf; cases hf
    exact ⟨⟨_, _, rfl, .inl ⟨rfl, hf2, rfl⟩⟩, hB⟩
  ·
    have hf2 : hdIs s0 = true := hf
    have hobt : ∃ C, hdC s0 = C := ⟨_, rfl⟩
    obtain ⟨C, hC⟩ := hobt
    have hobt : ∃ S, hdS s0 = S := ⟨_, rfl⟩
    obtain ⟨S, hS⟩ := hobt
    rw [hC, hS]
    have hnn : (N : Int) - 1 = (n : Int) := by omega
    refine W_skip ?_
    refine thenN ?_
    refine W_seq ?_
    refine W_region ?_
    refine WR_val rfl (rn_move) ?_
    refine WR_val rfl (rn_move) ?_
    refine WR_val rfl (rn_move) ?_
    refine WR_val rfl (rn_lenSl (e := 45) (sz := 128) (by kernel_rfl) rfl rfl) ?_
    refine WR_val rfl (rn_sub rfl rfl (Coup.w64 (by omega))) ?_
    refine WR_val rfl (rn_built3 (.int .u64 C) (.int .u64 S) (.int .i64 ((N : Int) - 1)) [.int .u64 C, .int .u64 S, .int .i64 ((N : Int) - 1), .slice none 0 0, .int .i64 0] (by rw [← hC]; rfl) (by rw [← hS]; rfl) rfl (by kernel_rfl)) ?_
    refine WR_mk rfl (mk_box ([.int .u64 C, .int .u64 S, .int .i64 ((N : Int) - 1), .slice none 0 0, .int .i64 0]) rfl (fun g30 w30 hg30 hr30 hb30 => ?_))
    have ge_hB_g30 := Nat.le_trans hB.size hg30
    replace hB := hB.acc hb30
    refine WR_val rfl (rn_assign) ?_
    refine WR_nil ?_
    refine thenN ?_
    refine W_block ?_
    rw [hnn] at hr30
    have hlo : w.heap.size ≤ w30.heap.size := hB.size
    have hy0 := hr30.lt
    refine W_loop (α := List Rec) [] (fun _ => [(7, .pointer (some ⟨g30, 0, none⟩)), (0, .slice (some ⟨gp, op, none⟩) N cp), (4, .int .u64 C), (5, .int .u64 S)])
      (fun T w' => atS T ≤ n ∧ T.length ≤ atS T ∧ recsL S C 0 (rowsL n SL.flatten n) = T ++ recsL S C T.length (rowsL (n - atS T) (SL.flatten.drop (128 * atS T)) (n - atS T)) ∧
        (∃ u vs, row w' g30 [.int .u64 C, .int .u64 S, .int .i64 (n : Int), u, .int .i64 ((atS T : Nat) : Int)] 43 ∧ ownsAt w' w30.heap.size 60 1 u T.length vs ∧ RlS w' w30.heap.size u.ownBlock vs T) ∧ Below w.heap.size w w' ∧ w30.heap.size ≤ w'.heap.size) (fun T => n - atS T)
      ⟨rfl, rfl, rfl, rfl, rfl⟩ ⟨Nat.zero_le _, Nat.le_refl _, rfl, ⟨.slice none 0 0, [], hr30, ownsAt_nil _ _ _ _, RlS.nil _ _ _⟩, hB, Nat.le_refl _⟩ ?_
    clear hr30 hB
    rintro T f wr ⟨hat, hTl, hrec, ⟨u, vs, hry, hu, hrl⟩, hB, hsw⟩
    obtain ⟨pr, cr, rfl⟩ := hu.form
    have hobt : ∃ lo, w30.heap.size = lo := ⟨_, rfl⟩
    obtain ⟨lo, hlo2⟩ := hobt
    rw [hlo2] at hu hrl hsw hy0 hlo
    have hxl : (SL.flatten.drop (128 * atS T)).length = (n - atS T) * 128 := by rw [List.length_drop, hSl]; omega
    have hdz := fun w' (hs : SlAt w' (some ⟨gp, op, none⟩) N 128 (bv (s0 :: SL).flatten)) => sl_dropZ (j := 1 + atS T) (c := cp) hs (by omega) hcp
    have hde : (bv (s0 :: SL).flatten).drop ((1 + atS T) * 128) = bv (SL.flatten.drop (128 * atS T)) := by
      rw [← bv_drop, hfl, show (1 + atS T) * 128 = s0.length + 128 * atS T by omega, List.drop_append, List.drop_of_length_le (l := s0) (by omega), List.nil_append, Nat.add_sub_cancel_left]
    rw [hde] at hdz
    have hm' : N - (1 + atS T) = n - atS T := by omega
    have hobt : ∃ X, SL.flatten.drop (128 * atS T) = X := ⟨_, rfl⟩
    obtain ⟨X, hX⟩ := hobt
    rw [hX] at hdz hxl hrec
    have hobt : ∃ RR, recsL S C 0 (rowsL n SL.flatten n) = RR := ⟨_, rfl⟩
    obtain ⟨RR, hRR⟩ := hobt
    rw [hRR] at hrec
    have hend : recsL S C T.length (rowsL (n - atS T) X (n - atS T)) = [] → RR = T := fun e => by rw [hrec, e, List.append_nil]
    have hout : ∀ w', Below wr.heap.size wr w' → RR = T → row w' g30 [.int .u64 C, .int .u64 S, .int .i64 (n : Int), .slice pr T.length cr, .int .i64 ((atS T : Nat) : Int)] 43 → ownsAt w' lo 60 1 (.slice pr T.length cr) T.length vs → RlS w' lo (Value.ownBlock (.slice pr T.length cr)) vs T → SaysAt w' g30 C S n pr cr (recsL S C 0 (rowsL n SL.flatten n)) (List.range' w.heap.size (w'.heap.size - w.heap.size)) := fun w' hb e h1 h2 h3 => by
      rw [hRR, e]
      exact ⟨h1, List.mem_range'_1.2 ⟨ge_hB_g30, by have := h1.lt; have := ge_hB_g30; omega⟩, RlS.thing h3 h2 (Nat.le_refl _) hlo⟩
    have hBr := Below.refl wr.heap.size wr
    refine W_block ?_
    refine W_seq ?_
    refine W_region ?_
    refine WR_val rfl (rn_move) ?_
    refine WR_val rfl (rn_move) ?_
    refine WR_val rfl (rn_nilCheckP rfl) ?_
    refine WR_val rfl (rn_fieldAddr (off := 4) (by kernel_rfl) rfl) ?_
    refine WR_val rfl (rn_load rfl (Ld.row1 hry (by kernel_rfl) rfl)) ?_
    refine WR_val rfl (rn_add rfl rfl (Coup.w64 (by omega))) ?_
    refine WR_val rfl (rn_sliceSl (e := 45) (sz := 128) (1 + atS T) N cp (by kernel_rfl) rfl ⟨_, _, rfl, by omega⟩ rfl rfl (by simp) (by omega) (by omega) (by omega)) ?_
    refine WR_ent rfl (rn_call (by kernel_rfl) rfl) (joinRef _ _ _ X wr (hdz wr (h.below hB (Nat.le_refl _))) (by omega)) ?_
    rintro _ w39 ⟨⟨c0, nn0, sp, kk, cq, mm, e, b, rfl, hkb, hsb, hkc, he, hyes⟩, hb39⟩
    replace hry := hry.new hb39
    replace hB := hB.acc hb39
    replace hBr := hBr.acc hb39
    have hB9 := Below.refl w39.heap.size w39
    refine WR_val rfl (rn_move) ?_
    refine WR_val rfl (rn_extract rfl rfl) ?_
    refine WR_val rfl (rn_extract rfl rfl) ?_
    refine WR_val rfl (rn_extract rfl rfl) ?_
    refine WR_val rfl (rn_extract rfl rfl) ?_
    refine WR_mk rfl (mk_alloc ([.int .u64 0, .int .i64 0]) (by kernel_rfl) (fun g8 w8 hg8 hr8 hb8 => ?_))
    have ge_hB_g8 := Nat.le_trans hB.size hg8
    have ge_hBr_g8 := Nat.le_trans hBr.size hg8
    have ge_hB9_g8 := Nat.le_trans hB9.size hg8
    have lt_g30_g8 : g30 < g8 := Nat.lt_of_lt_of_le hry.lt hg8
    replace hry := hry.new hb8
    replace hB := hB.acc hb8
    replace hBr := hBr.acc hb8
    replace hB9 := hB9.acc hb8
    refine WR_sk rfl (sk_storeA 2 ([.int .u64 (c0 : Int), .int .i64 (nn0 : Int)]) rfl rfl hr8 (by kernel_rfl) (by first | assumption | (simp; done) | (simp [bv_length, *]; done)) (by first | assumption | (simp; done) | (simp [bv_length, *]; done) | rfl) (by first | exact bv_one _ | assumption | (simp [Value.oneCell']; done)) (fun w901 hr8 ho901 => ?_))
    replace hry := hry.only ho901 (Nat.ne_of_lt lt_g30_g8)
    replace hB := ho901.below hB ge_hB_g8
    replace hBr := ho901.below hBr ge_hBr_g8
    replace hB9 := ho901.below hB9 ge_hB9_g8
    refine WR_val rfl (rn_assign) ?_
    refine WR_val rfl (rn_assign) ?_
    refine WR_val rfl (rn_assign) ?_
    refine WR_nil ?_
    refine thenN ?_
    refine W_seq ?_
    refine W_seq ?_
    refine W_draw' [] (by kernel_rfl) ?_
    intro w902 hb902 hS902
    replace hry := hry.new hb902
    replace hr8 := hr8.new hb902
    replace hB := hB.acc hb902
    replace hBr := hBr.acc hb902
    replace hB9 := hB9.acc hb902
    have hry_d902 := hry
    have hr8_d902 := hr8
    have hB_d902 := hB
    have hBr_d902 := hBr
    have hB9_d902 := hB9
    refine WA_take 0 (by kernel_rfl) rfl (fun _ _ => rn_move) ?_
    refine WA_take 1 (by kernel_rfl) rfl (fun _ _ => rn_not rfl) ?_
    refine WA_take 2 (by kernel_rfl) rfl (fun _ _ => rn_move) ?_
    refine WA_partnb 46 rfl (fun hne => ?_) (fun hne => ?_)
    ·
      refine WA_skip 3 (by kernel_rfl) rfl ?_
      refine WA_skip 4 (by kernel_rfl) rfl ?_
      refine WA_skip 5 (by kernel_rfl) rfl ?_
      refine WA_skip 6 (by kernel_rfl) rfl ?_
      refine WA_skip 7 (by kernel_rfl) rfl ?_
      refine WA_skip 8 (by kernel_rfl) rfl ?_
      refine WA_skip 9 (by kernel_rfl) rfl ?_
      refine WA_skip 10 (by kernel_rfl) rfl ?_
      refine WA_take 11 (by kernel_rfl) rfl (fun _ _ => rn_pick_t rfl) ?_
      refine WA_take 12 (by kernel_rfl) rfl (fun _ _ => rn_move) ?_
      refine WA_skip 13 (by kernel_rfl) rfl ?_
      refine WA_skip 14 (by kernel_rfl) rfl ?_
      refine WA_skip 15 (by kernel_rfl) rfl ?_
      refine WA_skip 16 (by kernel_rfl) rfl ?_
      refine WA_take 17 (by kernel_rfl) rfl (fun _ _ => rn_pick_t rfl) ?_
      refine WA_take 18 (by kernel_rfl) rfl (fun _ _ => rn_move) ?_
      refine WA_skip 19 (by kernel_rfl) rfl ?_
      refine WA_skip 20 (by kernel_rfl) rfl ?_
      refine WA_skip 21 (by kernel_rfl) rfl ?_
      refine WA_skip 22 (by kernel_rfl) rfl ?_
      refine WA_take 23 (by kernel_rfl) rfl (fun _ _ => rn_pick_t rfl) ?_
      refine WA_done (by kernel_rfl) ?_
      refine thenN ?_
      refine W_t rfl ?_
      refine W_seq ?_
      refine W_region ?_
      refine WR_val rfl (rn_move) ?_
      refine WR_val rfl (rn_assign) ?_
      refine WR_val rfl (rn_assign) ?_
      refine WR_nil ?_
      refine thenN ?_
      refine W_ret ?_
      refine thenR ?_
      refine blockR ?_
      refine loopR ?_
      refine blockR ?_
      refine ret_ret [_, _] ⟨rfl, rfl, trivial⟩ ?_
      have he2 : joinIs X (n - atS T) = false := by rw [← hm', ← he]; exact hne
      exact ⟨⟨_, _, rfl, .inr ⟨rfl, hf2, g30, pr, cr, rfl, hout _ hBr (hend (recs_stop he2)) hry (hu.new hBr) (hrl.new hBr)⟩⟩, hB⟩
    ·
      have he3 : e = true := hne
      have hobt := hyes he3
      obtain ⟨hc0, hn0, hb0, hm0⟩ := hobt
      have he2 : joinIs X (n - atS T) = true := by rw [← hm', ← he]; exact he3
      rw [hb0] at hkb hsb
      refine WA_take 3 (by kernel_rfl) rfl (fun _ _ => rn_fieldAddr (off := 1) (by kernel_rfl) rfl) ?_
      refine WA_take 4 (by kernel_rfl) rfl (fun w' hS' => rn_load rfl (Ld.row1 (hr8_d902.kpd hS' (by first | (simp; done) | (simp; omega) | (simp [*]; done) | exact notLL (Or.inl (by omega)) | exact notLL (Or.inr (by simp)) | exact fun g hm => Nat.le_trans (by omega) (inLL hm).1 | (intro b o e; cases e; exact notLL (Or.inl (by omega))) | (intro b hm; have := (hu.lt b (Option.mem_toList.1 hm)).1; omega) | (intro b o e; cases e; intro hm; have := (hu.lt _ (Option.mem_toList.1 hm)).1; omega))) (by kernel_rfl) rfl)) ?_
      refine WA_take 5 (by kernel_rfl) rfl (fun _ _ => rn_move) ?_
      refine WA_take 6 (by kernel_rfl) rfl (fun _ _ => rn_nilCheckP rfl) ?_
      refine WA_take 7 (by kernel_rfl) rfl (fun _ _ => rn_fieldAddr (off := 3) (by kernel_rfl) rfl) ?_
      refine WA_take 8 (by kernel_rfl) rfl (fun w' hS' => rn_load rfl (Ld.row1 (hry_d902.kpd hS' (by first | (simp; done) | (simp; omega) | (simp [*]; done) | exact notLL (Or.inl (by omega)) | exact notLL (Or.inr (by simp)) | exact fun g hm => Nat.le_trans (by omega) (inLL hm).1 | (intro b o e; cases e; exact notLL (Or.inl (by omega))) | (intro b hm; have := (hu.lt b (Option.mem_toList.1 hm)).1; omega) | (intro b o e; cases e; intro hm; have := (hu.lt _ (Option.mem_toList.1 hm)).1; omega))) (by kernel_rfl) rfl)) ?_
      refine WA_take 9 (by kernel_rfl) rfl (fun _ _ => rn_lenSl (e := 60) (sz := 1) (by kernel_rfl) rfl rfl) ?_
      refine WA_take 10 (by kernel_rfl) rfl (fun _ _ => rn_neq rfl rfl) ?_
      refine WA_take 11 (by kernel_rfl) rfl (fun _ _ => rn_pick_f rfl) ?_
      refine WA_take 12 (by kernel_rfl) rfl (fun _ _ => rn_move) ?_
      refine WA_part 56 rfl (fun hn => ?_) (fun hn => ?_)
      ·
        refine WA_skip 13 (by kernel_rfl) rfl ?_
        refine WA_skip 14 (by kernel_rfl) rfl ?_
        refine WA_skip 15 (by kernel_rfl) rfl ?_
        refine WA_skip 16 (by kernel_rfl) rfl ?_
        refine WA_take 17 (by kernel_rfl) rfl (fun _ _ => rn_pick_t rfl) ?_
        refine WA_take 18 (by kernel_rfl) rfl (fun _ _ => rn_move) ?_
        refine WA_skip 19 (by kernel_rfl) rfl ?_
        refine WA_skip 20 (by kernel_rfl) rfl ?_
        refine WA_skip 21 (by kernel_rfl) rfl ?_
        refine WA_skip 22 (by kernel_rfl) rfl ?_
        refine WA_take 23 (by kernel_rfl) rfl (fun _ _ => rn_pick_t rfl) ?_
        refine WA_done (by kernel_rfl) ?_
        refine thenN ?_
        refine W_t rfl ?_
        refine W_seq ?_
        refine W_region ?_
        refine WR_val rfl (rn_move) ?_
        refine WR_val rfl (rn_assign) ?_
        refine WR_val rfl (rn_assign) ?_
        refine WR_nil ?_
        refine thenN ?_
        refine W_ret ?_
        refine thenR ?_
        refine blockR ?_
        refine loopR ?_
        refine blockR ?_
        refine ret_ret [_, _] ⟨rfl, rfl, trivial⟩ ?_
        have hbad : okRow S C T.length ⟨hCount (halfAt X 0), hNum (halfAt X 0), joinB X⟩ = none := by
          rw [okRow, if_neg]
          rintro ⟨q1, q2, q3⟩
          dsimp only at q1 q2 q3
          omega
        exact ⟨⟨_, _, rfl, .inr ⟨rfl, hf2, g30, pr, cr, rfl, hout _ hBr (hend (recs_bad he2 hbad)) hry (hu.new hBr) (hrl.new hBr)⟩⟩, hB⟩
      ·
        refine WA_take 13 (by kernel_rfl) rfl (fun _ _ => rn_fieldAddr (off := 0) (by kernel_rfl) rfl) ?_
        refine WA_take 14 (by kernel_rfl) rfl (fun w' hS' => rn_load rfl (Ld.row1 (hr8_d902.kpd hS' (by first | (simp; done) | (simp; omega) | (simp [*]; done) | exact notLL (Or.inl (by omega)) | exact notLL (Or.inr (by simp)) | exact fun g hm => Nat.le_trans (by omega) (inLL hm).1 | (intro b o e; cases e; exact notLL (Or.inl (by omega))) | (intro b hm; have := (hu.lt b (Option.mem_toList.1 hm)).1; omega) | (intro b o e; cases e; intro hm; have := (hu.lt _ (Option.mem_toList.1 hm)).1; omega))) (by kernel_rfl) rfl)) ?_
        refine WA_take 15 (by kernel_rfl) rfl (fun _ _ => rn_move) ?_
        refine WA_take 16 (by kernel_rfl) rfl (fun _ _ => rn_lss rfl rfl) ?_
        refine WA_take 17 (by kernel_rfl) rfl (fun _ _ => rn_pick_f rfl) ?_
        refine WA_take 18 (by kernel_rfl) rfl (fun _ _ => rn_move) ?_
        refine WA_part 62 rfl (fun hcs => ?_) (fun hcs => ?_)
        ·
          refine WA_skip 19 (by kernel_rfl) rfl ?_
          refine WA_skip 20 (by kernel_rfl) rfl ?_
          refine WA_skip 21 (by kernel_rfl) rfl ?_
          refine WA_skip 22 (by kernel_rfl) rfl ?_
          refine WA_take 23 (by kernel_rfl) rfl (fun _ _ => rn_pick_t rfl) ?_
          refine WA_done (by kernel_rfl) ?_
          refine thenN ?_
          refine W_t rfl ?_
          refine W_seq ?_
          refine W_region ?_
          refine WR_val rfl (rn_move) ?_
          refine WR_val rfl (rn_assign) ?_
          refine WR_val rfl (rn_assign) ?_
          refine WR_nil ?_
          refine thenN ?_
          refine W_ret ?_
          refine thenR ?_
          refine blockR ?_
          refine loopR ?_
          refine blockR ?_
          refine ret_ret [_, _] ⟨rfl, rfl, trivial⟩ ?_
          have hbad : okRow S C T.length ⟨hCount (halfAt X 0), hNum (halfAt X 0), joinB X⟩ = none := by
            rw [okRow, if_neg]
            rintro ⟨q1, q2, q3⟩
            dsimp only at q1 q2 q3
            omega
          exact ⟨⟨_, _, rfl, .inr ⟨rfl, hf2, g30, pr, cr, rfl, hout _ hBr (hend (recs_bad he2 hbad)) hry (hu.new hBr) (hrl.new hBr)⟩⟩, hB⟩
        ·
          refine WA_take 19 (by kernel_rfl) rfl (fun _ _ => rn_fieldAddr (off := 0) (by kernel_rfl) rfl) ?_
          refine WA_take 20 (by kernel_rfl) rfl (fun w' hS' => rn_load rfl (Ld.row1 (hr8_d902.kpd hS' (by first | (simp; done) | (simp; omega) | (simp [*]; done) | exact notLL (Or.inl (by omega)) | exact notLL (Or.inr (by simp)) | exact fun g hm => Nat.le_trans (by omega) (inLL hm).1 | (intro b o e; cases e; exact notLL (Or.inl (by omega))) | (intro b hm; have := (hu.lt b (Option.mem_toList.1 hm)).1; omega) | (intro b o e; cases e; intro hm; have := (hu.lt _ (Option.mem_toList.1 hm)).1; omega))) (by kernel_rfl) rfl)) ?_
          refine WA_take 21 (by kernel_rfl) rfl (fun _ _ => rn_move) ?_
          refine WA_take 22 (by kernel_rfl) rfl (fun _ _ => rn_gtr rfl rfl) ?_
          refine WA_take 23 (by kernel_rfl) rfl (fun _ _ => rn_pick_f rfl) ?_
          refine WA_done (by kernel_rfl) ?_
          refine thenN ?_
          refine W_ifp rfl (fun hcc => ?_) (fun hcc => ?_)
          ·
            refine W_seq ?_
            refine W_region ?_
            refine WR_val rfl (rn_move) ?_
            refine WR_val rfl (rn_assign) ?_
            refine WR_val rfl (rn_assign) ?_
            refine WR_nil ?_
            refine thenN ?_
            refine W_ret ?_
            refine thenR ?_
            refine blockR ?_
            refine loopR ?_
            refine blockR ?_
            refine ret_ret [_, _] ⟨rfl, rfl, trivial⟩ ?_
            have hbad : okRow S C T.length ⟨hCount (halfAt X 0), hNum (halfAt X 0), joinB X⟩ = none := by
              rw [okRow, if_neg]
              rintro ⟨q1, q2, q3⟩
              dsimp only at q1 q2 q3
              omega
            exact ⟨⟨_, _, rfl, .inr ⟨rfl, hf2, g30, pr, cr, rfl, hout _ hBr (hend (recs_bad he2 hbad)) hry (hu.new hBr) (hrl.new hBr)⟩⟩, hB⟩
          ·
            have hokr : ∀ r, ofR (joinB X) = r → okRow S C T.length ⟨hCount (halfAt X 0), hNum (halfAt X 0), joinB X⟩ = r := fun r hr => by
              rw [okRow, if_pos ⟨by dsimp only; omega, by dsimp only; omega, by dsimp only; omega⟩]; exact hr
            have hjl : (joinB X).length ≤ 1000000 := by
              have := (join_facts he2).2.2 hxl
              unfold needN manyN at this
              omega
            refine W_skip ?_
            refine thenN ?_
            refine W_seq ?_
            refine W_region ?_
            refine WR_val rfl (rn_move) ?_
            have hBr0 := hBr.size
            refine WR_ent rfl (rn_call (by kernel_rfl) rfl) (rof16c (joinB X) sp kk cq w902 (hsb.below hB9 (Nat.le_refl _)) hkc (by omega)) ?_
            rintro _ w71 ⟨⟨x2, k2, c2, e2, r2, rfl, rfl, hs2, hfr, hcase⟩, hb71⟩
            replace hry := hry.new hb71
            replace hr8 := hr8.new hb71
            replace hB := hB.acc hb71
            replace hBr := hBr.acc hb71
            replace hB9 := hB9.acc hb71
            refine WR_val rfl (rn_move) ?_
            refine WR_val rfl (rn_extract rfl rfl) ?_
            refine WR_val rfl (rn_extract rfl rfl) ?_
            refine WR_val rfl (rn_assign) ?_
            refine WR_val rfl (rn_assign) ?_
            refine WR_nil ?_
            refine thenN ?_
            refine W_seq ?_
            refine W_seq ?_
            refine W_region ?_
            refine WR_val rfl (rn_move) ?_
            refine WR_val rfl (rn_not rfl) ?_
            refine WR_nil ?_
            refine thenN ?_
            refine W_ifnb rfl (fun hof => ?_) (fun hof => ?_)
            ·
              refine W_seq ?_
              refine W_region ?_
              refine WR_val rfl (rn_move) ?_
              refine WR_val rfl (rn_assign) ?_
              refine WR_val rfl (rn_assign) ?_
              refine WR_nil ?_
              refine thenN ?_
              refine W_ret ?_
              refine thenR ?_
              refine blockR ?_
              refine loopR ?_
              refine blockR ?_
              refine ret_ret [_, _] ⟨rfl, rfl, trivial⟩ ?_
              have he5 : e2 = false := by cases e2 with | false => rfl | true => cases hof
              have hno : ofR (joinB X) = none := hcase.elim (fun h => by rw [he5] at h; cases h.2) fun h => h.1
              have hbad := hokr none hno
              exact ⟨⟨_, _, rfl, .inr ⟨rfl, hf2, g30, pr, cr, rfl, hout _ hBr (hend (recs_bad he2 hbad)) hry (hu.new hBr) (hrl.new hBr)⟩⟩, hB⟩
            ·
              have he5 : e2 = true := hof
              have hyo : ofR (joinB X) = some r2 := hcase.elim (fun h => h.1) fun h => by rw [he5] at h; cases h.2.2
              have hbad := hokr (some r2) hyo
              have hr60 := ofR_may hyo
              have hjb := ofR_len hyo
              have hnx := recs_next he2 hxl hbad
              have hatn := atS_snoc T r2
              have hjf := (join_facts he2).2.2 hxl
              have hneed : needN (joinB X).length = needN (516 * r2.length) := by rw [hjb]
              refine W_skip ?_
              refine thenN ?_
              refine W_seq ?_
              refine W_region ?_
              refine WR_val rfl (rn_move) ?_
              refine WR_val rfl (rn_move) ?_
              refine WR_val rfl (rn_nilCheckP rfl) ?_
              refine WR_val rfl (rn_fieldAddr (off := 3) (by kernel_rfl) rfl) ?_
              refine WR_val rfl (rn_load rfl (Ld.row1 hry (by kernel_rfl) rfl)) ?_
              refine WR_val rfl (rn_move) ?_
              refine WR_mk rfl (mk_one (e := 60) (.slice x2 r2.length c2) ([.slice x2 r2.length c2]) ([Value.slice none 0 0]) 1 (by kernel_rfl) (by kernel_rfl) rfl rfl rfl ⟨by decide, by decide⟩ (fun g83 w83 hg83 hr83 hb83 => ?_))
              have ge_hB_g83 := Nat.le_trans hB.size hg83
              have ge_hBr_g83 := Nat.le_trans hBr.size hg83
              have ge_hB9_g83 := Nat.le_trans hB9.size hg83
              have lt_g30_g83 : g30 < g83 := Nat.lt_of_lt_of_le hry.lt hg83
              have lt_g8_g83 : g8 < g83 := Nat.lt_of_lt_of_le hr8.lt hg83
              replace hry := hry.new hb83
              replace hr8 := hr8.new hb83
              replace hs2 := hs2.new hb83
              replace hB := hB.acc hb83
              replace hBr := hBr.acc hb83
              replace hB9 := hB9.acc hb83
              have hs83 := hr83.slA (m := 1) (sz := 1) rfl (by omega)
              have hub : ∀ b, (Value.slice pr T.length cr).ownBlock = some b → b < wr.heap.size := fun b hb => (hu.lt b hb).2
              replace hu := hu.new hBr
              replace hrl := hrl.new hBr
              have hbz := hBr.size
              have hobt := hs2.some (by omega)
              obtain ⟨g2, o2, rfl, hg2⟩ := hobt
              have hfr2 := hfr g2 o2 rfl
              have sz_hB_84 := hB.size
              refine WR_mk rfl (mk_append (e := 60) (sz := 1) (bytes := 24) (z := Value.slice none 0 0) (by kernel_rfl) rfl (by kernel_rfl) rfl (by decide) rfl hu rfl hs83 (by simp [Value.oneCell']) (by unfold maxLen; omega) (by omega) (fun hm0 => by omega) (fun v84 w84 hv84 hgr84 hfr84 => ?_))
              replace hry := hry.own hu hgr84 (by omega)
              replace hB := hB.own hu hgr84 (by omega)
              have hs2 := hs2.kpd (Kp.of_grown hgr84) (fun b o e hm => by cases e; have := hub _ (Option.mem_toList.1 hm); omega)
              have hrl2 := (hrl.grow hgr84 hfr84).snoc (c := c2) hs2 (by omega) (fun b off e => by
                cases e
                refine ⟨by omega, by have := hgr84.size; omega, fun e => ?_⟩
                rcases hfr84 _ e.symm with x | x
                · have := hub _ x; omega
                · omega)
              have hf84 := hv84.form
              obtain ⟨p4, c4, rfl⟩ := hf84
              refine WR_val rfl (rn_nilCheckP rfl) ?_
              refine WR_val rfl (rn_fieldAddr (off := 3) (by kernel_rfl) rfl) ?_
              refine WR_sk rfl (sk_store1 rfl rfl rfl rfl hry (by kernel_rfl) (by first | (simp only [List.length_replicate]; omega) | (simp only [iv_length]; omega) | (simp only [bv_length, List.length_set]; omega) | simp) (fun w903 hry ho903 => ?_))
              replace hv84 := hv84.only ho903 (by omega)
              replace hrl2 := hrl2.only ho903 (by omega)
              replace hB := ho903.below hB ge_hB_g30
              replace hry : row w903 g30 [.int .u64 C, .int .u64 S, .int .i64 (n : Int), .slice p4 (T.length + 1) c4, .int .i64 ((atS T : Nat) : Int)] 43 := hry
              have hz1 := ho903.size
              refine WR_nil ?_
              refine thenN ?_
              refine W_region ?_
              refine WR_val rfl (rn_move) ?_
              refine WR_val rfl (rn_move) ?_
              refine WR_val rfl (rn_nilCheckP rfl) ?_
              refine WR_val rfl (rn_fieldAddr (off := 4) (by kernel_rfl) rfl) ?_
              refine WR_val rfl (rn_load rfl (Ld.row1 hry (by kernel_rfl) rfl)) ?_
              refine WR_val rfl (rn_move) ?_
              refine WR_val rfl (rn_add rfl rfl (Coup.w64 (by omega))) ?_
              refine WR_val rfl (rn_nilCheckP rfl) ?_
              refine WR_val rfl (rn_fieldAddr (off := 4) (by kernel_rfl) rfl) ?_
              refine WR_sk rfl (sk_store1 rfl rfl rfl rfl hry (by kernel_rfl) (by first | (simp only [List.length_replicate]; omega) | (simp only [iv_length]; omega) | (simp only [bv_length, List.length_set]; omega) | simp) (fun w904 hry ho904 => ?_))
              replace hv84 := hv84.only ho904 (by omega)
              replace hrl2 := hrl2.only ho904 (by omega)
              replace hB := ho904.below hB ge_hB_g30
              have hz2 := ho904.size
              refine WR_nil ?_
              refine blockN ?_
              have hcast : (atS T : Int) + mm = ((atS (T ++ [r2]) : Nat) : Int) := by rw [hatn]; omega
              replace hry : row w904 g30 [.int .u64 C, .int .u64 S, .int .i64 (n : Int), .slice p4 (T.length + 1) c4, .int .i64 ((atS T : Int) + mm)] 43 := hry
              rw [hcast] at hry
              rw [← hlo2] at hv84 hrl2
              refine loopN ⟨T ++ [r2], by omega, ⟨rfl, rfl, rfl, rfl, rfl⟩, by omega, by rw [List.length_append, List.length_singleton]; omega, ?_, ⟨_, _, hry, by rw [List.length_append]; exact hv84, hrl2⟩, hB, by have := hgr84.size; omega⟩
              rw [hRR, hrec, hnx, List.length_append, List.length_singleton, hatn, hneed, ← hX, List.drop_drop, ← Nat.mul_add, Nat.sub_sub, List.append_assoc]
              rfl

end Go.Proofs.YtkkgahgpemepeaaGreat

/- Cells that are written on a disk. -/
namespace Go.Proofs.YtkkgahgpemepeaaGreat
open Go Go.RowKit Coup Go.ChangeShapes Go.WideShapes Go.Deep

structure CellT where
  at_ : Int
  kind : Int
  i : Int
  count : Nat
  since : Nat
  tc : Nat
  tn : Int
  b : List UInt8
  s : Sec
  torn : Bool
def ceC (a : CellT) (q : Option Addr) (cp : Nat) : List Value := .int .i64 a.at_ :: .int .i64 a.kind :: .int .i64 a.i :: .int .u64 (a.count : Int) :: .int .u64 (a.since : Int) :: .int .u64 (a.tc : Int) :: .int .i64 a.tn :: .slice q a.b.length cp :: (bv a.s ++ [.bool a.torn])
theorem ceC_len {a : CellT} {q : Option Addr} {cp : Nat} (hs : a.s.length = 128) : (ceC a q cp).length = 137 := by
  simp only [ceC, List.length_cons, List.length_append, bv_length, hs, List.length_nil]
theorem ceC_one (a : CellT) (q : Option Addr) (cp : Nat) : ∀ v ∈ ceC a q cp, v.oneCell' = true := fun v hv => by
  simp only [ceC, List.mem_cons, List.mem_append, List.not_mem_nil, or_false] at hv
  rcases hv with rfl | rfl | rfl | rfl | rfl | rfl | rfl | rfl | hv | rfl
  all_goals first | rfl | exact bv_one _ v hv
set_option maxRecDepth 8000 in
theorem ld_ceS {w : World} {g t : Nat} {a : CellT} {q : Option Addr} {cp : Nat} (hr : row w g (ceC a q cp) t) (hs : a.s.length = 128) : Ld Tryz.prog w 45 ⟨g, 0 + 8, none⟩ (.agg (bv a.s).toArray) := by
  have h := Ld.rowN (P := Tryz.prog) (t := 45) (off := 0 + 8) (k := 128) hr (by kernel_rfl) (by kernel_rfl) (by rw [ceC_len hs]; omega)
  have e : ((ceC a q cp).drop (0 + 8)).take 128 = bv a.s := by
    show (bv a.s ++ [Value.bool a.torn]).take 128 = _
    rw [List.take_append_of_le_length (by rw [bv_length, hs]; exact Nat.le_refl _), List.take_of_length_le (by rw [bv_length, hs]; exact Nat.le_refl _)]
  rwa [e] at h
set_option maxRecDepth 8000 in
theorem ld_ceT {w : World} {g t : Nat} {a : CellT} {q : Option Addr} {cp : Nat} (hr : row w g (ceC a q cp) t) (hs : a.s.length = 128) : Ld Tryz.prog w 4 ⟨g, 0 + 136, none⟩ (.bool a.torn) := by
  refine Ld.row1 hr (by kernel_rfl) ?_
  have e : (bv a.s ++ [Value.bool a.torn])[128]? = some (.bool a.torn) := by rw [List.getElem?_append_right (by rw [bv_length, hs]; exact Nat.le_refl _), bv_length, hs]; rfl
  exact e
theorem ceC_inj {a : CellT} {q q' : Option Addr} {c c' : Nat} (h : ceC a q c = ceC a q' c') : q = q' ∧ c = c' := by
  have h2 := congrArg (fun z => z[7]?) h
  have h3 : (some (Value.slice q a.b.length c)) = some (Value.slice q' a.b.length c') := h2
  injection h3 with h3
  injection h3 with h4 _ h5
  exact ⟨h4, h5⟩
theorem ld_ceG {w : World} {g t : Nat} {a : CellT} {q : Option Addr} {cp : Nat} (hr : row w g (ceC a q cp) t) (hs : a.s.length = 128) : Ld Tryz.prog w 86 ⟨g, 0 + 5, none⟩ (.agg #[.int .u64 (a.tc : Int), .int .i64 a.tn]) :=
  Ld.rowN (P := Tryz.prog) (t := 86) (off := 0 + 5) (k := 2) hr (by kernel_rfl) (by kernel_rfl) (by rw [ceC_len hs]; omega)
theorem ld_rowS {w : World} {g o m j : Nat} {l : List UInt8} (h : SlAt w (some ⟨g, o, none⟩) m 128 (bv l)) (hj : j < m) : ∃ s : Sec, s.length = 128 ∧ Ld Tryz.prog w 45 ⟨g, o + j * 128, none⟩ (.agg (bv s).toArray) := by
  have hl : l.length = m * 128 := by simpa [bv_length] using h.len
  have := Ld.slN (P := Tryz.prog) (t := 45) (j := j * 128) (k := 128) h (by kernel_rfl) (by kernel_rfl) (by rw [bv_length, hl]; omega)
  rw [← bv_drop, ← bv_take] at this
  exact ⟨_, by rw [List.length_take, List.length_drop]; omega, this⟩
/-- The cells of a cell that came in. -/
def CeQ (W : World) (a : CellT) (cs : List Value) : Prop := ∃ q cp, cs = ceC a q cp ∧ a.s.length = 128 ∧ SlAt W q a.b.length 1 (bv a.b) ∧ a.b.length ≤ cp ∧ wf64 a.at_ ∧ wf64 a.kind ∧ wf64 a.i ∧ a.count < 18446744073709551616 ∧ a.since < 18446744073709551616 ∧ a.tc < 18446744073709551616 ∧ wf64 a.tn
theorem u64_nat {a : Int} (h : (Lit.int .u64 a).wf = true) : ∃ n : Nat, a = (n : Int) ∧ n < 18446744073709551616 := by
  have h2 : IntKind.u64.min ≤ a ∧ a ≤ IntKind.u64.max := by simpa [Lit.wf] using h
  have e1 : IntKind.u64.min = 0 := by decide
  have e2 : IntKind.u64.max = 18446744073709551615 := by decide
  exact ⟨a.toNat, by omega, by omega⟩
theorem ceQ_opn {H : Type} {enc : TypeId × Value → H} {W : World} {base : Nat} {spare : Nat → Bool} {held : Bool} : Opn enc Tryz.prog W base spare held 88 (CeQ W) := fun fuel cs x h => by
  obtain ⟨hl, m, hf⟩ := opn_flds Tryz.underlying88 h
  have hl2 : cs.length = 137 := hl.trans (by kernel_rfl)
  obtain ⟨_, h0⟩ := fld hf 0 0 1 rfl rfl (by kernel_rfl)
  obtain ⟨_, h1⟩ := fld hf 1 1 1 rfl rfl (by kernel_rfl)
  obtain ⟨_, h2⟩ := fld hf 2 2 1 rfl rfl (by kernel_rfl)
  obtain ⟨_, h3⟩ := fld hf 3 3 1 rfl rfl (by kernel_rfl)
  obtain ⟨_, h4⟩ := fld hf 4 4 1 rfl rfl (by kernel_rfl)
  obtain ⟨_, h5⟩ := fld hf 5 5 2 rfl rfl (by kernel_rfl)
  obtain ⟨_, h6⟩ := fld hf 6 7 1 rfl rfl (by kernel_rfl)
  obtain ⟨_, h7⟩ := fld hf 7 8 128 rfl rfl (by kernel_rfl)
  obtain ⟨_, h8⟩ := fld hf 8 136 1 rfl rfl (by kernel_rfl)
  obtain ⟨hl5, m5, hf5⟩ := opn_flds Tryz.underlying86 h5
  have hl52 : ((cs.drop 5).take 2).length = 2 := hl5.trans (by kernel_rfl)
  obtain ⟨_, g0⟩ := fld hf5 0 0 1 rfl rfl (by kernel_rfl)
  obtain ⟨_, g1⟩ := fld hf5 1 1 1 rfl rfl (by kernel_rfl)
  obtain ⟨at_, e0, w0⟩ := opn_int (by kernel_rfl) _ _ _ h0
  obtain ⟨kind, e1, w1⟩ := opn_int (by kernel_rfl) _ _ _ h1
  obtain ⟨i, e2, w2⟩ := opn_int (by kernel_rfl) _ _ _ h2
  obtain ⟨ct, e3, w3⟩ := opn_int (by kernel_rfl) _ _ _ h3
  obtain ⟨si, e4, w4⟩ := opn_int (by kernel_rfl) _ _ _ h4
  obtain ⟨tc, f0, w5⟩ := opn_int (by kernel_rfl) _ _ _ g0
  obtain ⟨tn, f1, w6⟩ := opn_int (by kernel_rfl) _ _ _ g1
  obtain ⟨R, q, cp, e6, hcp, hR⟩ := opn_slice (e := 5) (n := 1) (by kernel_rfl) (by kernel_rfl) (opn_int (k := .u8) (by kernel_rfl)) _ _ _ h6
  obtain ⟨l, hll, hl4⟩ := u8_of_els hR
  obtain ⟨s, e7, w7⟩ := opn_bytes (e := 5) (n := 128) (by kernel_rfl) (by kernel_rfl) (by kernel_rfl) (by kernel_rfl) _ _ _ h7
  obtain ⟨tb, e8⟩ := opn_bool (by kernel_rfl) _ _ _ h8
  obtain ⟨ct, rfl, y3⟩ := u64_nat w3
  obtain ⟨si, rfl, y4⟩ := u64_nat w4
  obtain ⟨tc, rfl, y5⟩ := u64_nat w5
  refine ⟨⟨at_, kind, i, ct, si, tc, tn, l, s, tb⟩, q, cp, ?_, w7, by rw [hll]; exact hl4, by show l.length ≤ cp; omega, i64_of_wf w0, i64_of_wf w1, i64_of_wf w2, y3, y4, y5, i64_of_wf w6⟩
  have k0 := cut_at cs 0 1
  have k1 := cut_at cs 1 1
  have k2 := cut_at cs 2 1
  have k3 := cut_at cs 3 1
  have k4 := cut_at cs 4 1
  have k5 := cut_at cs 5 2
  have k6 := cut_at cs 7 1
  have k7 := cut_at cs 8 128
  have k8 := cut_at cs 136 1
  have j0 := cut_at ((cs.drop 5).take 2) 0 1
  have j1 := cut_at ((cs.drop 5).take 2) 1 1
  rw [f0] at j0
  rw [f1, List.drop_of_length_le (i := 1 + 1) (by omega), List.append_nil] at j1
  rw [j1, List.drop_zero] at j0
  rw [e0] at k0
  rw [e1] at k1
  rw [e2] at k2
  rw [e3] at k3
  rw [e4] at k4
  rw [j0] at k5
  rw [e6] at k6
  rw [e7] at k7
  rw [e8, List.drop_of_length_le (l := cs) (i := 136 + 1) (by omega), List.append_nil] at k8
  rw [k8] at k7
  rw [k7] at k6
  rw [k6] at k5
  rw [k5] at k4
  rw [k4] at k3
  rw [k3] at k2
  rw [k2] at k1
  rw [k1] at k0
  rw [List.drop_zero] at k0
  rw [ceC, hll]
  exact k0
theorem openRowsC {H : Type} {enc : TypeId × Value → H} {W : World} {a : Option Addr} {len cap : Nat} {d : DataW H} {p : List MemPlace} (h : DataW.Trod enc Tryz.prog W 0 (fun _ => true) true 22 (.slice a len cap) d p) : (∃ R, ElsAt (CeQ W) W 137 a len R) ∧ len ≤ cap :=
  opn_arg (by kernel_rfl) (by kernel_rfl) ceQ_opn h
theorem torn59 (a b : List UInt8) (ha : a.length = 128) (hb : b.length = 128) (w : World) :
    Calls Tryz.prog 41 [.agg (bv a).toArray, .agg (bv b).toArray].toArray w (Ret fun v w' => (∃ s : Sec, v = .agg (bv s).toArray ∧ s.length = 128) ∧ Below w.heap.size w w') :=
  (torn35 a b ha hb w).to fun v w' ⟨h1, h2⟩ => ⟨⟨_, h1, by rw [List.length_append, List.length_take, List.length_drop]; omega⟩, h2⟩
section
theorem CeQ.below {w w' : World} {a : CellT} {cs : List Value} (h : CeQ w a cs) (hb : Below w.heap.size w w') : CeQ w' a cs := by
  obtain ⟨q, cp, h1, h2, h3, h4⟩ := h
  exact ⟨q, cp, h1, h2, h3.below hb (Nat.le_refl _), h4⟩
variable {Y : World → List Nat → Prop} [Thing Y] {g : Nat} {D : Dk} {w w0 : World}
set_option maxRecDepth 20000 in
set_option maxHeartbeats 2000000 in
theorem write30 (h : Two (DZ g D) Y w0.heap.size [] w) {k0 : Nat} (hk0 : k0 ≤ 1000) (ha : Alive D k0) (p : Option Addr) (n cp : Nat) (R : List CellT) (hn : n ≤ 1000) (hR : ElsAt (CeQ w0) w0 137 p n R) (hB0 : Below w0.heap.size w0 w) :
    Calls Tryz.prog 8 [.pointer (some ⟨g, 0, none⟩), .slice p n cp].toArray w (Ret fun v w' => (∃ D', Alive D' (k0 + n) ∧ D'.V.length = D.V.length ∧ Two (DZ g D') Y w0.heap.size [] w') ∧ LoL w0.heap.size [] w w') := by
  obtain ⟨lo, hloe⟩ : ∃ lo, w0.heap.size = lo := ⟨_, rfl⟩
  have hlo : ∀ b o, p = some ⟨b, o, none⟩ → 0 < n → b < lo := fun b o e h0 => by
    obtain ⟨g', o', e', hl⟩ := hR.some (by omega)
    rw [e'] at e; cases e; omega
  have hlo2 : ∀ (w' : World) (a : CellT) cs, CeQ w0 a cs → LoL lo [] w w' → CeQ w' a cs := fun w' a cs hc hl => hc.below (belLL hB0 hl (by omega))
  rw [hloe] at h ⊢
  have hLL := LoL.refl lo [] w
  have hml : maxLen = 9223372036854775807 := by decide
  refine calls_W (fn := Tryz.f8) (rs := []) (n := 85) Tryz.func8 rfl rfl Tryz.ntmps8 (by kernel_rfl) rfl ?_
  refine W_seq ?_
  refine W_region ?_
  refine WR_val rfl (rn_assign) ?_
  refine WR_nil ?_
  refine thenN ?_
  refine W_block ?_
  refine W_loop (α := Nat) 0 (fun i => [(4, .int .i64 (i : Nat)), (1, .slice p n cp), (0, .pointer (some ⟨g, 0, none⟩))])
    (fun i w' => i ≤ n ∧ (∃ D', Alive D' (k0 + i) ∧ D'.V.length = D.V.length ∧ Two (DZ g D') Y lo [] w') ∧ LoL lo [] w w') (fun i => n - i) ⟨rfl, rfl, rfl, rfl⟩ ⟨Nat.zero_le _, ⟨D, ha, rfl, h⟩, hLL⟩ ?_
  clear hLL
  rintro i f wr ⟨hi, ⟨D', hal, hlen, hD⟩, hLL⟩
  have hsw := hLL.size
  refine W_seq ?_
  refine W_seq ?_
  refine W_region ?_
  refine WR_val rfl (rn_move) ?_
  refine WR_val rfl (rn_move) ?_
  refine WR_val rfl (rn_lenSl (e := 88) (sz := 137) (by kernel_rfl) rfl rfl) ?_
  refine WR_val rfl (rn_lss rfl rfl) ?_
  refine WR_nil ?_
  refine thenN ?_
  refine W_ifp rfl (fun hlt => ?_) (fun hlt => ?_)
  ·
    refine W_skip ?_
    refine thenN ?_
    refine W_seq ?_
    refine W_block ?_
    refine W_seq ?_
    have hobt := hR.get (i := i) (by omega)
    obtain ⟨a, hx⟩ := hobt
    have hobt := hR.some (by omega)
    obtain ⟨gp, op, rfl, hgp⟩ := hobt
    have hle := hR.el hx
    obtain ⟨cs, hcq, hcl, hce⟩ := hle
    have hcq2 := hlo2 wr a cs hcq hLL
    obtain ⟨q, qc, rfl, hs, hbs, hbc, wa, wk, wi, hct, hsi, htc, hwn⟩ := hcq2
    have hld : Ld Tryz.prog wr 88 ⟨gp, op + i * 137, none⟩ (.agg (ceC a q qc).toArray) := Ld.rng (fun j v hv => by rw [← hce j v hv]; simp only [World.cell?, (belLL hB0 hLL (by omega)).block gp hgp]) (by kernel_rfl) (by rw [hcl]; kernel_rfl)
    have hone : ∀ v ∈ ceC a q qc, v.oneCell' = true := ceC_one a q qc
    have hhl := headB_len a.count a.since
    have hhb : (bv (headB a.count a.since)).length = 128 := by rw [bv_length]; exact hhl
    refine W_region ?_
    refine WR_val rfl (rn_move) ?_
    refine WR_val rfl (rn_move) ?_
    refine WR_val rfl (rn_indexSl (e := 88) (sz := 137) (by kernel_rfl) rfl rfl (i) (by omega) (by omega)) ?_
    refine WR_val rfl (rn_load rfl (hld)) ?_
    refine WR_mk rfl (mk_alloc (([Value.int .i64 0]) ++ ([Value.int .i64 0]) ++ ([Value.int .i64 0]) ++ ([Value.int .u64 0]) ++ ([Value.int .u64 0]) ++ ([Value.int .u64 0, Value.int .i64 0]) ++ ([Value.slice none 0 0]) ++ (List.replicate 128 (Value.int .u8 0)) ++ ([Value.bool false])) (by kernel_rfl) (fun g5 w5 hg5 hr5 hb5 => ?_))
    replace hD := hD.newc hb5 hg5 hr5.lt
    replace hLL := hLL.new hb5
    refine WR_sk rfl (sk_storeA 137 (ceC a q qc) rfl rfl hr5 (by kernel_rfl) (by first | assumption | (simp; done) | (simp [bv_length, *]; done)) (by first | assumption | (simp; done) | (simp [bv_length, *]; done) | rfl) (by first | exact bv_one _ | assumption | (simp [Value.oneCell']; done)) (fun w901 hr5 ho901 => ?_))
    replace hD := hD.only ho901 (by first | (right; simp; done) | (left; omega))
    replace hLL := hLL.only ho901 (by first | omega | (right; exact ⟨by omega, by assumption⟩))
    refine WR_nil ?_
    refine thenN ?_
    refine W_seq ?_
    refine W_region ?_
    refine WR_val rfl (rn_fieldAddr (off := 8) (by kernel_rfl) rfl) ?_
    refine WR_val rfl (rn_load rfl (ld_ceS hr5 hs)) ?_
    refine WR_mk rfl (mk_alloc (List.replicate 128 (Value.int .u8 0)) (by kernel_rfl) (fun g6 w6 hg6 hr6 hb6 => ?_))
    have lt_g5_g6 : g5 < g6 := Nat.lt_of_lt_of_le hr5.lt hg6
    replace hD := hD.newc hb6 hg6 hr6.lt
    replace hLL := hLL.new hb6
    replace hr5 := hr5.new hb6
    refine WR_sk rfl (sk_storeA 128 (bv a.s) rfl rfl hr6 (by kernel_rfl) (by first | assumption | (simp; done) | (simp [bv_length, *]; done)) (by first | assumption | (simp; done) | (simp [bv_length, *]; done) | rfl) (by first | exact bv_one _ | assumption | (simp [Value.oneCell']; done)) (fun w902 hr6 ho902 => ?_))
    replace hD := hD.only ho902 (by first | (right; simp; done) | (left; omega))
    replace hLL := hLL.only ho902 (by first | omega | (right; exact ⟨by omega, by assumption⟩))
    replace hr5 := hr5.only ho902 (Nat.ne_of_lt lt_g5_g6)
    refine WR_nil ?_
    refine thenN ?_
    refine W_cut (fun s : Sec => [(4, .int .i64 (i : Nat)), (1, .slice (some ⟨gp, op, none⟩) n cp), (0, .pointer (some ⟨g, 0, none⟩)), (5, .pointer (some ⟨g5, 0, none⟩)), (6, .pointer (some ⟨g6, 0, none⟩))]) (fun s w' => s.length = 128 ∧ row w' g6 (bv s) 45 ∧ row w' g5 (ceC a q qc) 88 ∧ Two (DZ g D') Y lo [g6, g5] w' ∧ LoL lo [] w w') ?_ ?_
    ·
      refine W_seq ?_
      refine W_region ?_
      refine WR_val rfl (rn_fieldAddr (off := 1) (by kernel_rfl) rfl) ?_
      refine WR_val rfl (rn_load rfl (Ld.row1 hr5 (by kernel_rfl) rfl)) ?_
      refine WR_val rfl (rn_eql rfl rfl) ?_
      refine WR_nil ?_
      refine thenN ?_
      refine W_ifp rfl (fun h24 => ?_) (fun h24 => ?_)
      ·
        refine W_region ?_
        refine WR_val rfl (rn_fieldAddr (off := 3) (by kernel_rfl) rfl) ?_
        refine WR_val rfl (rn_load rfl (Ld.row1 hr5 (by kernel_rfl) rfl)) ?_
        refine WR_val rfl (rn_fieldAddr (off := 4) (by kernel_rfl) rfl) ?_
        refine WR_val rfl (rn_load rfl (Ld.row1 hr5 (by kernel_rfl) rfl)) ?_
        refine WR_ent rfl (rn_call (by kernel_rfl) rfl) (rhead28 a.count a.since hct hsi w902) ?_
        rintro _ w29 ⟨rfl, hb29⟩
        replace hD := hD.new hb29
        replace hLL := hLL.new hb29
        replace hr5 := hr5.new hb29
        replace hr6 := hr6.new hb29
        refine WR_sk rfl (sk_storeA 128 (bv (headB a.count a.since)) rfl rfl hr6 (by kernel_rfl) (by first | assumption | (simp; done) | (simp [bv_length, *]; done)) (by first | assumption | (simp; done) | (simp [bv_length, *]; done) | rfl) (by first | exact bv_one _ | assumption | (simp [Value.oneCell']; done)) (fun w903 hr6 ho903 => ?_))
        replace hD := hD.only ho903 (by first | (right; simp; done) | (left; omega))
        replace hLL := hLL.only ho903 (by first | omega | (right; exact ⟨by omega, by assumption⟩))
        replace hr5 := hr5.only ho903 (Nat.ne_of_lt lt_g5_g6)
        refine WR_nil ?_
        exact ⟨headB a.count a.since, ⟨rfl, rfl, rfl, rfl, rfl, rfl⟩, headB_len _ _, hr6, hr5, hD, hLL⟩
      ·
        refine W_skip ?_
        exact ⟨a.s, ⟨rfl, rfl, rfl, rfl, rfl, rfl⟩, hs, hr6, hr5, hD, hLL⟩
    ·
      intro s f wc ⟨hsl, hr6, hr5, hD, hLL⟩
      have hbl : (bv s).length = 128 := by rw [bv_length]; exact hsl
      refine W_cut (fun s : Sec => [(4, .int .i64 (i : Nat)), (1, .slice (some ⟨gp, op, none⟩) n cp), (0, .pointer (some ⟨g, 0, none⟩)), (5, .pointer (some ⟨g5, 0, none⟩)), (6, .pointer (some ⟨g6, 0, none⟩))]) (fun s w' => s.length = 128 ∧ row w' g6 (bv s) 45 ∧ row w' g5 (ceC a q qc) 88 ∧ Two (DZ g D') Y lo [g6, g5] w' ∧ LoL lo [] w w') ?_ ?_
      ·
        refine W_seq ?_
        refine W_region ?_
        refine WR_val rfl (rn_fieldAddr (off := 1) (by kernel_rfl) rfl) ?_
        refine WR_val rfl (rn_load rfl (Ld.row1 hr5 (by kernel_rfl) rfl)) ?_
        refine WR_val rfl (rn_eql rfl rfl) ?_
        refine WR_val rfl (rn_move) ?_
        refine WR_part 33 rfl (fun h33 => ?_) (fun h33 => ?_)
        ·
          refine WR_yes rfl ?_
          refine WR_val rfl (rn_fieldAddr (off := 7) (by kernel_rfl) rfl) ?_
          refine WR_yes rfl ?_
          refine WR_val rfl (rn_load rfl (Ld.row1 hr5 (by kernel_rfl) rfl)) ?_
          refine WR_yes rfl ?_
          refine WR_val rfl (rn_lenSl (e := 5) (sz := 1) (by kernel_rfl) rfl rfl) ?_
          refine WR_yes rfl ?_
          refine WR_val rfl (rn_leq rfl rfl) ?_
          refine WR_val rfl (rn_pick_t rfl) ?_
          refine WR_val rfl (rn_move) ?_
          refine WR_part 39 rfl (fun h39 => ?_) (fun h39 => ?_)
          ·
            refine WR_yes rfl ?_
            refine WR_val rfl (rn_fieldAddr (off := 5) (by kernel_rfl) rfl) ?_
            refine WR_yes rfl ?_
            refine WR_val rfl (rn_load rfl (ld_ceG hr5 hs)) ?_
            refine WR_yes rfl ?_
            refine WR_ent rfl (rn_call (by kernel_rfl) rfl) (may11r a.tc a.tn wc) ?_
            rintro _ w42 ⟨rfl, hb42⟩
            replace hD := hD.new hb42
            replace hLL := hLL.new hb42
            replace hr5 := hr5.new hb42
            replace hr6 := hr6.new hb42
            refine WR_val rfl (rn_pick_t rfl) ?_
            refine WR_nil ?_
            refine thenN ?_
            refine W_if rfl (fun hmay => ?_) (fun hmay => ?_)
            ·
              refine W_seq ?_
              refine W_region ?_
              have hcq3 := hlo2 w42 a _ hcq hLL
              have hmb := may_bounds hmay
              obtain ⟨q3, qc3, he3, _, hbs3, _⟩ := hcq3
              have hobt : q = q3 ∧ qc = qc3 := ceC_inj he3
              obtain ⟨rfl, rfl⟩ := hobt
              have hobt : ∃ m : Nat, a.tn = (m : Int) := ⟨a.tn.toNat, by omega⟩
              obtain ⟨m, hm⟩ := hobt
              have hrow := row15 a.tc m a.b q a.b.length qc w42 hbs3 (by omega) htc (by have := hwn.2; omega)
              rw [← hm] at hrow
              refine WR_val rfl (rn_fieldAddr (off := 5) (by kernel_rfl) rfl) ?_
              refine WR_val rfl (rn_load rfl (ld_ceG hr5 hs)) ?_
              refine WR_val rfl (rn_fieldAddr (off := 7) (by kernel_rfl) rfl) ?_
              refine WR_val rfl (rn_load rfl (Ld.row1 hr5 (by kernel_rfl) rfl)) ?_
              refine WR_ent rfl (rn_call (by kernel_rfl) rfl) (hrow) ?_
              rintro _ w48 ⟨q2, cq2, rfl, hq2, hb48⟩
              replace hD := hD.new hb48
              replace hLL := hLL.new hb48
              replace hr5 := hr5.new hb48
              replace hr6 := hr6.new hb48
              refine WR_val rfl (rn_assign) ?_
              refine WR_nil ?_
              refine thenN ?_
              refine W_seq ?_
              refine W_region ?_
              refine WR_val rfl (rn_fieldAddr (off := 2) (by kernel_rfl) rfl) ?_
              refine WR_val rfl (rn_load rfl (Ld.row1 hr5 (by kernel_rfl) rfl)) ?_
              refine WR_val rfl (rn_geq rfl rfl) ?_
              refine WR_val rfl (rn_move) ?_
              refine WR_part 52 rfl (fun h52 => ?_) (fun h52 => ?_)
              ·
                refine WR_yes rfl ?_
                refine WR_val rfl (rn_fieldAddr (off := 2) (by kernel_rfl) rfl) ?_
                refine WR_yes rfl ?_
                refine WR_val rfl (rn_load rfl (Ld.row1 hr5 (by kernel_rfl) rfl)) ?_
                refine WR_yes rfl ?_
                refine WR_val rfl (rn_move) ?_
                refine WR_yes rfl ?_
                refine WR_val rfl (rn_lenSl (e := 45) (sz := 128) (by kernel_rfl) rfl rfl) ?_
                refine WR_yes rfl ?_
                refine WR_val rfl (rn_lss rfl rfl) ?_
                refine WR_val rfl (rn_pick_t rfl) ?_
                refine WR_nil ?_
                refine thenN ?_
                refine W_ifp rfl (fun h58 => ?_) (fun h58 => ?_)
                ·
                  refine W_region ?_
                  refine WR_val rfl (rn_move) ?_
                  refine WR_val rfl (rn_fieldAddr (off := 2) (by kernel_rfl) rfl) ?_
                  refine WR_val rfl (rn_load rfl (Ld.row1 hr5 (by kernel_rfl) rfl)) ?_
                  have hjl : a.i.toNat < needN a.b.length := by omega
                  have hobt := hq2.some (by omega)
                  obtain ⟨g2, o2, rfl, _⟩ := hobt
                  have hobt := ld_rowS hq2 hjl
                  obtain ⟨s2, hs2, hld2⟩ := hobt
                  have hsb2 : (bv s2).length = 128 := by rw [bv_length]; exact hs2
                  refine WR_val rfl (rn_indexSl (e := 45) (sz := 128) (by kernel_rfl) rfl rfl ((a.i.toNat)) (by omega) (by omega)) ?_
                  refine WR_val rfl (rn_load rfl (hld2)) ?_
                  refine WR_sk rfl (sk_storeA 128 (bv s2) rfl rfl hr6 (by kernel_rfl) (by first | assumption | (simp; done) | (simp [bv_length, *]; done)) (by first | assumption | (simp; done) | (simp [bv_length, *]; done) | rfl) (by first | exact bv_one _ | assumption | (simp [Value.oneCell']; done)) (fun w904 hr6 ho904 => ?_))
                  replace hD := hD.only ho904 (by first | (right; simp; done) | (left; omega))
                  replace hLL := hLL.only ho904 (by first | omega | (right; exact ⟨by omega, by assumption⟩))
                  replace hr5 := hr5.only ho904 (Nat.ne_of_lt lt_g5_g6)
                  refine WR_nil ?_
                  exact ⟨s2, ⟨rfl, rfl, rfl, rfl, rfl, rfl⟩, hs2, hr6, hr5, hD, hLL⟩
                ·
                  refine W_skip ?_
                  exact ⟨s, ⟨rfl, rfl, rfl, rfl, rfl, rfl⟩, hsl, hr6, hr5, hD, hLL⟩
              ·
                refine WR_no rfl rfl ?_
                refine WR_no rfl rfl ?_
                refine WR_no rfl rfl ?_
                refine WR_no rfl rfl ?_
                refine WR_no rfl rfl ?_
                refine WR_val rfl (rn_pick_f rfl) ?_
                refine WR_nil ?_
                refine thenN ?_
                refine W_f rfl ?_
                refine W_skip ?_
                exact ⟨s, ⟨rfl, rfl, rfl, rfl, rfl, rfl⟩, hsl, hr6, hr5, hD, hLL⟩
            ·
              refine W_skip ?_
              exact ⟨s, ⟨rfl, rfl, rfl, rfl, rfl, rfl⟩, hsl, hr6, hr5, hD, hLL⟩
          ·
            refine WR_no rfl rfl ?_
            refine WR_no rfl rfl ?_
            refine WR_no rfl rfl ?_
            refine WR_val rfl (rn_pick_f rfl) ?_
            refine WR_nil ?_
            refine thenN ?_
            refine W_f rfl ?_
            refine W_skip ?_
            exact ⟨s, ⟨rfl, rfl, rfl, rfl, rfl, rfl⟩, hsl, hr6, hr5, hD, hLL⟩
        ·
          refine WR_no rfl rfl ?_
          refine WR_no rfl rfl ?_
          refine WR_no rfl rfl ?_
          refine WR_no rfl rfl ?_
          refine WR_val rfl (rn_pick_f rfl) ?_
          refine WR_val rfl (rn_move) ?_
          refine WR_no rfl rfl ?_
          refine WR_no rfl rfl ?_
          refine WR_no rfl rfl ?_
          refine WR_val rfl (rn_pick_f rfl) ?_
          refine WR_nil ?_
          refine thenN ?_
          refine W_f rfl ?_
          refine W_skip ?_
          exact ⟨s, ⟨rfl, rfl, rfl, rfl, rfl, rfl⟩, hsl, hr6, hr5, hD, hLL⟩
      ·
        intro s f wd ⟨hsl, hr6, hr5, hD, hLL⟩
        have hbl : (bv s).length = 128 := by rw [bv_length]; exact hsl
        refine W_seq ?_
        have hrd := tRead hD a.at_
        have hs3 : (if inD D' a.at_ then readD D' a.at_.toNat else zeroS).length = 128 := by
          split
          · rename_i hin
            obtain ⟨k, hk, hk2⟩ := inD_nat hin
            rw [hk, Int.toNat_natCast]
            exact readD_len (tOk hD).1 hk2
          · exact (show zeroS.length = 128 by rw [zeroS, List.length_replicate])
        generalize (if inD D' a.at_ then readD D' a.at_.toNat else zeroS) = s3 at hrd hs3
        generalize (if inD D' a.at_ then (0 : Int) else 2) = e3 at hrd
        have hb3 : (bv s3).length = 128 := by rw [bv_length]; exact hs3
        refine W_region ?_
        refine WR_val rfl (rn_move) ?_
        refine WR_val rfl (rn_fieldAddr (off := 0) (by kernel_rfl) rfl) ?_
        refine WR_val rfl (rn_load rfl (Ld.row1 hr5 (by kernel_rfl) rfl)) ?_
        refine WR_ent rfl (rn_call (by kernel_rfl) rfl) (hrd) ?_
        rintro _ w68 ⟨rfl, hb68⟩
        replace hD := hD.new hb68
        replace hLL := hLL.new hb68
        replace hr5 := hr5.new hb68
        replace hr6 := hr6.new hb68
        refine WR_val rfl (rn_move) ?_
        refine WR_val rfl (rn_extract rfl rfl) ?_
        refine WR_val rfl (rn_extract rfl rfl) ?_
        refine WR_mk rfl (mk_alloc (List.replicate 128 (Value.int .u8 0)) (by kernel_rfl) (fun g8 w8 hg8 hr8 hb8 => ?_))
        have lt_g5_g8 : g5 < g8 := Nat.lt_of_lt_of_le hr5.lt hg8
        have lt_g6_g8 : g6 < g8 := Nat.lt_of_lt_of_le hr6.lt hg8
        replace hD := hD.newc hb8 hg8 hr8.lt
        replace hLL := hLL.new hb8
        replace hr5 := hr5.new hb8
        replace hr6 := hr6.new hb8
        refine WR_sk rfl (sk_storeA 128 (bv s3) rfl rfl hr8 (by kernel_rfl) (by first | assumption | (simp; done) | (simp [bv_length, *]; done)) (by first | assumption | (simp; done) | (simp [bv_length, *]; done) | rfl) (by first | exact bv_one _ | assumption | (simp [Value.oneCell']; done)) (fun w905 hr8 ho905 => ?_))
        replace hD := hD.only ho905 (by first | (right; simp; done) | (left; omega))
        replace hLL := hLL.only ho905 (by first | omega | (right; exact ⟨by omega, by assumption⟩))
        replace hr5 := hr5.only ho905 (Nat.ne_of_lt lt_g5_g8)
        replace hr6 := hr6.only ho905 (Nat.ne_of_lt lt_g6_g8)
        refine WR_val rfl (rn_assign) ?_
        refine WR_nil ?_
        refine thenN ?_
        refine W_cut (fun s : Sec => [(4, .int .i64 (i : Nat)), (1, .slice (some ⟨gp, op, none⟩) n cp), (0, .pointer (some ⟨g, 0, none⟩)), (5, .pointer (some ⟨g5, 0, none⟩)), (6, .pointer (some ⟨g6, 0, none⟩))]) (fun s w' => s.length = 128 ∧ row w' g6 (bv s) 45 ∧ row w' g5 (ceC a q qc) 88 ∧ Two (DZ g D') Y lo [g6, g5] w' ∧ LoL lo [] w w') ?_ ?_
        ·
          refine W_seq ?_
          refine W_region ?_
          refine WR_val rfl (rn_move) ?_
          refine WR_val rfl (rn_eql rfl rfl) ?_
          refine WR_val rfl (rn_move) ?_
          refine WR_part 73 rfl (fun h73 => ?_) (fun h73 => ?_)
          ·
            refine WR_yes rfl ?_
            refine WR_val rfl (rn_fieldAddr (off := 136) (by kernel_rfl) rfl) ?_
            refine WR_yes rfl ?_
            refine WR_val rfl (rn_load rfl (ld_ceT hr5 hs)) ?_
            refine WR_val rfl (rn_pick_t rfl) ?_
            refine WR_nil ?_
            refine thenN ?_
            refine W_if rfl (fun htn => ?_) (fun htn => ?_)
            ·
              refine W_region ?_
              refine WR_val rfl (rn_load rfl (Ld.rowA (k := 128) hr8 (by kernel_rfl) (by kernel_rfl) (by first | (simp; done) | (simp [bv_length, *]; done) | assumption))) ?_
              refine WR_val rfl (rn_load rfl (Ld.rowA (k := 128) hr6 (by kernel_rfl) (by kernel_rfl) (by first | (simp; done) | (simp [bv_length, *]; done) | assumption))) ?_
              refine WR_ent rfl (rn_call (by kernel_rfl) rfl) (torn59 s3 s hs3 hsl w905) ?_
              rintro _ w79 ⟨⟨s4, rfl, hs4⟩, hb79⟩
              replace hD := hD.new hb79
              replace hLL := hLL.new hb79
              replace hr5 := hr5.new hb79
              replace hr6 := hr6.new hb79
              replace hr8 := hr8.new hb79
              have hb4 : (bv s4).length = 128 := by rw [bv_length]; exact hs4
              refine WR_sk rfl (sk_storeA 128 (bv s4) rfl rfl hr6 (by kernel_rfl) (by first | assumption | (simp; done) | (simp [bv_length, *]; done)) (by first | assumption | (simp; done) | (simp [bv_length, *]; done) | rfl) (by first | exact bv_one _ | assumption | (simp [Value.oneCell']; done)) (fun w906 hr6 ho906 => ?_))
              replace hD := hD.only ho906 (by first | (right; simp; done) | (left; omega))
              replace hLL := hLL.only ho906 (by first | omega | (right; exact ⟨by omega, by assumption⟩))
              replace hr5 := hr5.only ho906 (Nat.ne_of_lt lt_g5_g6)
              replace hr8 := hr8.only ho906 (Nat.ne_of_gt lt_g6_g8)
              refine WR_nil ?_
              exact ⟨s4, ⟨rfl, rfl, rfl, rfl, rfl, rfl⟩, hs4, hr6, hr5, hD.weak (by simp), hLL⟩
            ·
              refine W_skip ?_
              exact ⟨s, ⟨rfl, rfl, rfl, rfl, rfl, rfl⟩, hsl, hr6, hr5, hD.weak (by simp), hLL⟩
          ·
            refine WR_no rfl rfl ?_
            refine WR_no rfl rfl ?_
            refine WR_val rfl (rn_pick_f rfl) ?_
            refine WR_nil ?_
            refine thenN ?_
            refine W_f rfl ?_
            refine W_skip ?_
            exact ⟨s, ⟨rfl, rfl, rfl, rfl, rfl, rfl⟩, hsl, hr6, hr5, hD.weak (by simp), hLL⟩
        ·
          intro s f we ⟨hsl, hr6, hr5, hD, hLL⟩
          have hbl : (bv s).length = 128 := by rw [bv_length]; exact hsl
          have hobt := hal.writeA a.at_ s
          obtain ⟨q1, q2, _⟩ := hobt
          refine W_region ?_
          refine WR_val rfl (rn_move) ?_
          refine WR_val rfl (rn_fieldAddr (off := 0) (by kernel_rfl) rfl) ?_
          refine WR_val rfl (rn_load rfl (Ld.row1 hr5 (by kernel_rfl) rfl)) ?_
          refine WR_val rfl (rn_load rfl (Ld.rowA (k := 128) hr6 (by kernel_rfl) (by kernel_rfl) (by first | (simp; done) | (simp [bv_length, *]; done) | assumption))) ?_
          refine WR_ent rfl (rn_call (by kernel_rfl) rfl) ((tWrite hD a.at_ s hsl (short_of hal.short (by omega)))) ?_
          rintro _ w84 ⟨_, hD, hb84⟩
          replace hLL := hLL.ll hb84 (by first | (intro b hb; exact hb) | (intro b hb; simp [hb]; done) | simp)
          replace hr5 := hr5.kpd hb84.kp (by first | (refine notLL ?_; left; omega) | (refine notLL ?_; right; simp; done) | (intro b o e; cases e; first | (refine notLL ?_; left; omega) | (refine notLL ?_; right; simp; done) | (refine notLL ?_; right; simp [*]; done)) | (intro b hb; refine notLL ?_; left; omega) | (intro b hb e; cases e; exact notLL (by right; simp [*]) hb))
          replace hr6 := hr6.kpd hb84.kp (by first | (refine notLL ?_; left; omega) | (refine notLL ?_; right; simp; done) | (intro b o e; cases e; first | (refine notLL ?_; left; omega) | (refine notLL ?_; right; simp; done) | (refine notLL ?_; right; simp [*]; done)) | (intro b hb; refine notLL ?_; left; omega) | (intro b hb e; cases e; exact notLL (by right; simp [*]) hb))
          refine WR_nil ?_
          refine blockN ?_
          refine thenN ?_
          refine W_region ?_
          refine WR_val rfl (rn_move) ?_
          refine WR_val rfl (rn_add rfl rfl (Coup.w64 (by omega))) ?_
          refine WR_val rfl (rn_assign) ?_
          refine WR_nil ?_
          refine loopN ⟨i + 1, by omega, ⟨by go_num, rfl, rfl, rfl⟩, by omega, ⟨_, by rw [show k0 + (i + 1) = k0 + i + 1 by omega]; exact q1, q2.trans hlen, hD.weak (by simp)⟩, hLL⟩
  ·
    have hin : i = n := by omega
    subst hin
    refine W_exit ?_
    refine thenX ?_
    refine loopX ?_
    refine blockX ?_
    refine ret_normal [] trivial ?_
    exact ⟨⟨D', hal, hlen, hD⟩, hLL⟩

end
end Go.Proofs.YtkkgahgpemepeaaGreat

/- Logs and disks that are not there. -/
namespace Go.Proofs.YtkkgahgpemepeaaGreat
open Go Go.RowKit Coup

def zeroDk : List Value := [.slice none 0 0, .map none, .int .i64 0, .bool false, .bool false]
/-- No disk, or the zero one. -/
def NilD (w : World) (q : Value) : Prop := q = .pointer none ∨ ∃ g, q = .pointer (some ⟨g, 0, none⟩) ∧ row w g zeroDk 73
set_option maxRecDepth 20000 in
theorem n27 {w : World} {q : Value} (h : NilD w q) : Calls Tryz.prog 52 [q].toArray w (Ret fun v w' => v = .int .i64 0 ∧ w = w') := by
  rcases h with rfl | ⟨g, rfl, hr⟩
  refine calls_W (fn := Tryz.f52) (rs := [.tmp 2]) (n := 10) Tryz.func52 rfl rfl Tryz.ntmps52 (by kernel_rfl) rfl ?_
  refine W_seq ?_
  refine W_region ?_
  refine WR_val rfl (rn_assign) ?_
  refine WR_nil ?_
  refine thenN ?_
  refine W_seq ?_
  refine W_seq ?_
  refine W_region ?_
  refine WR_val rfl (rn_move) ?_
  refine WR_val rfl (rn_eqlP0 (by kernel_rfl) rfl rfl) ?_
  refine WR_nil ?_
  refine thenN ?_
  refine W_tb rfl (rfl) ?_
  refine W_seq ?_
  refine W_region ?_
  refine WR_val rfl (rn_assign) ?_
  refine WR_nil ?_
  refine thenN ?_
  refine W_ret ?_
  refine thenR ?_
  refine ret_ret [_] ⟨rfl, trivial⟩ ?_
  exact ⟨rfl, rfl⟩
  unfold zeroDk at hr
  refine calls_W (fn := Tryz.f52) (rs := [.tmp 2]) (n := 10) Tryz.func52 rfl rfl Tryz.ntmps52 (by kernel_rfl) rfl ?_
  refine W_seq ?_
  refine W_region ?_
  refine WR_val rfl (rn_assign) ?_
  refine WR_nil ?_
  refine thenN ?_
  refine W_seq ?_
  refine W_seq ?_
  refine W_region ?_
  refine WR_val rfl (rn_move) ?_
  refine WR_val rfl (rn_eqlP1 (by kernel_rfl) rfl rfl) ?_
  refine WR_nil ?_
  refine thenN ?_
  refine W_fb rfl (rfl) ?_
  refine W_skip ?_
  refine thenN ?_
  refine W_seq ?_
  refine W_region ?_
  refine WR_val rfl (rn_move) ?_
  refine WR_val rfl (rn_nilCheckP rfl) ?_
  refine WR_val rfl (rn_fieldAddr (off := 0) (by kernel_rfl) rfl) ?_
  refine WR_val rfl (rn_load rfl (Ld.row1 hr (by kernel_rfl) rfl)) ?_
  refine WR_val rfl (rn_lenSl (e := 45) (sz := 128) (by kernel_rfl) rfl rfl) ?_
  refine WR_val rfl (rn_assign) ?_
  refine WR_nil ?_
  refine thenN ?_
  refine W_ret ?_
  refine ret_ret [_] ⟨rfl, trivial⟩ ?_
  exact ⟨rfl, rfl⟩
set_option maxRecDepth 20000 in
theorem n49 {w : World} {q : Value} (h : NilD w q) (n : Int) : Calls Tryz.prog 34 [q, .int .i64 n].toArray w (Ret fun v w' => v = .int .i64 1 ∧ w = w') := by
  have hS := n27 h
  refine calls_W (fn := Tryz.f34) (rs := [.tmp 4]) (n := 23) Tryz.func34 rfl rfl Tryz.ntmps34 (by kernel_rfl) rfl ?_
  refine W_seq ?_
  refine W_region ?_
  refine WR_val rfl (rn_assign) ?_
  refine WR_nil ?_
  refine thenN ?_
  refine W_seq ?_
  refine W_block ?_
  refine W_seq ?_
  refine W_region ?_
  refine WR_val rfl (rn_move) ?_
  refine WR_ent rfl (rn_call (by kernel_rfl) rfl) (hS) ?_
  rintro _ _ ⟨rfl, rfl⟩
  refine WR_val rfl (rn_eql rfl rfl) ?_
  refine WR_val rfl (rn_assign) ?_
  refine WR_nil ?_
  refine thenN ?_
  refine W_tp rfl (rfl) ?_
  refine W_seq ?_
  refine W_region ?_
  refine WR_val rfl (rn_assign) ?_
  refine WR_nil ?_
  refine thenN ?_
  refine W_ret ?_
  refine blockR ?_
  refine thenR ?_
  refine ret_ret [_] ⟨rfl, trivial⟩ ?_
  exact ⟨rfl, rfl⟩
set_option maxRecDepth 20000 in
theorem n26 {w : World} {q : Value} (h : NilD w q) (n : Int) : Calls Tryz.prog 11 [q, .int .i64 n].toArray w (Ret fun v w' => v = .int .i64 1 ∧ w = w') := by
  have hS := n49 h n
  refine calls_W (fn := Tryz.f11) (rs := [.tmp 4]) (n := 36) Tryz.func11 rfl rfl Tryz.ntmps11 (by kernel_rfl) rfl ?_
  refine W_seq ?_
  refine W_region ?_
  refine WR_val rfl (rn_assign) ?_
  refine WR_nil ?_
  refine thenN ?_
  refine W_seq ?_
  refine W_seq ?_
  refine W_region ?_
  refine WR_val rfl (rn_move) ?_
  refine WR_val rfl (rn_move) ?_
  refine WR_ent rfl (rn_call (by kernel_rfl) rfl) (hS) ?_
  rintro _ _ ⟨rfl, rfl⟩
  refine WR_val rfl (rn_assign) ?_
  refine WR_nil ?_
  refine thenN ?_
  refine W_seq ?_
  refine W_region ?_
  refine WR_val rfl (rn_move) ?_
  refine WR_val rfl (rn_neq rfl rfl) ?_
  refine WR_nil ?_
  refine thenN ?_
  refine W_tp rfl ((by simp)) ?_
  refine W_seq ?_
  refine W_region ?_
  refine WR_val rfl (rn_move) ?_
  refine WR_val rfl (rn_assign) ?_
  refine WR_nil ?_
  refine thenN ?_
  refine W_ret ?_
  refine thenR ?_
  refine ret_ret [_] ⟨rfl, trivial⟩ ?_
  exact ⟨rfl, rfl⟩
set_option maxRecDepth 20000 in
theorem n24 {w : World} {q : Value} (h : NilD w q) (n : Int) : Calls Tryz.prog 7 [q, .int .i64 n].toArray w (Ret fun v w' => v = noLog 1 ∧ w = w') := by
  have hS := n49 h n
  refine calls_W (fn := Tryz.f7) (rs := [.tmp 4, .tmp 5, .tmp 6]) (n := 64) Tryz.func7 rfl rfl Tryz.ntmps7 (by kernel_rfl) rfl ?_
  refine W_seq ?_
  refine W_region ?_
  refine WR_val rfl (rn_assign) ?_
  refine WR_val rfl (rn_assign) ?_
  refine WR_val rfl (rn_assign) ?_
  refine WR_nil ?_
  refine thenN ?_
  refine W_seq ?_
  refine W_seq ?_
  refine W_region ?_
  refine WR_val rfl (rn_move) ?_
  refine WR_val rfl (rn_move) ?_
  refine WR_ent rfl (rn_call (by kernel_rfl) rfl) (hS) ?_
  rintro _ _ ⟨rfl, rfl⟩
  refine WR_val rfl (rn_assign) ?_
  refine WR_nil ?_
  refine thenN ?_
  refine W_seq ?_
  refine W_region ?_
  refine WR_val rfl (rn_move) ?_
  refine WR_val rfl (rn_neq rfl rfl) ?_
  refine WR_nil ?_
  refine thenN ?_
  refine W_tp rfl ((by simp)) ?_
  refine W_seq ?_
  refine W_region ?_
  refine WR_val rfl (rn_move) ?_
  refine WR_val rfl (rn_assign) ?_
  refine WR_val rfl (rn_assign) ?_
  refine WR_val rfl (rn_assign) ?_
  refine WR_nil ?_
  refine thenN ?_
  refine W_ret ?_
  refine thenR ?_
  refine ret_ret [_, _, _] ⟨rfl, rfl, rfl, trivial⟩ ?_
  exact ⟨rfl, rfl⟩
def zeroLg : List Value := [.int .u64 0, .int .u64 0, .pointer none, .int .i64 0, .int .i64 0, .int .i64 0, .bool false]
/-- No log, or the zero one. -/
def NilL (w : World) (q : Value) : Prop := q = .pointer none ∨ ∃ g, q = .pointer (some ⟨g, 0, none⟩) ∧ row w g zeroLg 81
set_option maxRecDepth 20000 in
theorem nl45 {w : World} {q : Value} (h : NilL w q) : Calls Tryz.prog 57 [q].toArray w (Ret fun v w' => v = .int .i64 1 ∧ w = w') := by
  rcases h with rfl | ⟨g, rfl, hr⟩
  refine calls_W (fn := Tryz.f57) (rs := [.tmp 2]) (n := 18) Tryz.func57 rfl rfl Tryz.ntmps57 (by kernel_rfl) rfl ?_
  refine W_seq ?_
  refine W_region ?_
  refine WR_val rfl (rn_assign) ?_
  refine WR_nil ?_
  refine thenN ?_
  refine W_seq ?_
  refine W_block ?_
  refine W_seq ?_
  refine W_region ?_
  refine WR_val rfl (rn_move) ?_
  refine WR_val rfl (rn_eqlP0 (by kernel_rfl) rfl rfl) ?_
  refine WR_val rfl (rn_move) ?_
  refine WR_tb 6 rfl (rfl) ?_
  refine WR_no rfl rfl ?_
  refine WR_no rfl rfl ?_
  refine WR_no rfl rfl ?_
  refine WR_no rfl rfl ?_
  refine WR_no rfl rfl ?_
  refine WR_val rfl (rn_pick_t rfl) ?_
  refine WR_val rfl (rn_assign) ?_
  refine WR_nil ?_
  refine thenN ?_
  refine W_tb rfl (rfl) ?_
  refine W_seq ?_
  refine W_region ?_
  refine WR_val rfl (rn_assign) ?_
  refine WR_nil ?_
  refine thenN ?_
  refine W_ret ?_
  refine blockR ?_
  refine thenR ?_
  refine ret_ret [_] ⟨rfl, trivial⟩ ?_
  exact ⟨rfl, rfl⟩
  unfold zeroLg at hr
  refine calls_W (fn := Tryz.f57) (rs := [.tmp 2]) (n := 18) Tryz.func57 rfl rfl Tryz.ntmps57 (by kernel_rfl) rfl ?_
  refine W_seq ?_
  refine W_region ?_
  refine WR_val rfl (rn_assign) ?_
  refine WR_nil ?_
  refine thenN ?_
  refine W_seq ?_
  refine W_block ?_
  refine W_seq ?_
  refine W_region ?_
  refine WR_val rfl (rn_move) ?_
  refine WR_val rfl (rn_eqlP1 (by kernel_rfl) rfl rfl) ?_
  refine WR_val rfl (rn_move) ?_
  refine WR_fb 6 rfl (rfl) ?_
  refine WR_yes rfl ?_
  refine WR_val rfl (rn_move) ?_
  refine WR_yes rfl ?_
  refine WR_val rfl (rn_nilCheckP rfl) ?_
  refine WR_yes rfl ?_
  refine WR_val rfl (rn_fieldAddr (off := 2) (by kernel_rfl) rfl) ?_
  refine WR_yes rfl ?_
  refine WR_val rfl (rn_load rfl (Ld.row1 hr (by kernel_rfl) rfl)) ?_
  refine WR_yes rfl ?_
  refine WR_val rfl (rn_eqlP0 (by kernel_rfl) rfl rfl) ?_
  refine WR_val rfl (rn_pick_f rfl) ?_
  refine WR_val rfl (rn_assign) ?_
  refine WR_nil ?_
  refine thenN ?_
  refine W_tb rfl (rfl) ?_
  refine W_seq ?_
  refine W_region ?_
  refine WR_val rfl (rn_assign) ?_
  refine WR_nil ?_
  refine thenN ?_
  refine W_ret ?_
  refine blockR ?_
  refine thenR ?_
  refine ret_ret [_] ⟨rfl, trivial⟩ ?_
  exact ⟨rfl, rfl⟩
set_option maxRecDepth 20000 in
theorem nl17 {w : World} {q : Value} (h : NilL w q) (u : Value) : Calls Tryz.prog 33 [q, u].toArray w (Ret fun v w' => v = .int .i64 1 ∧ w = w') := by
  have hS := nl45 h
  refine calls_W (fn := Tryz.f33) (rs := [.tmp 4]) (n := 72) Tryz.func33 rfl rfl Tryz.ntmps33 (by kernel_rfl) rfl ?_
  refine W_seq ?_
  refine W_region ?_
  refine WR_val rfl (rn_assign) ?_
  refine WR_nil ?_
  refine thenN ?_
  refine W_seq ?_
  refine W_seq ?_
  refine W_region ?_
  refine WR_val rfl (rn_move) ?_
  refine WR_ent rfl (rn_call (by kernel_rfl) rfl) (hS) ?_
  rintro _ _ ⟨rfl, rfl⟩
  refine WR_val rfl (rn_assign) ?_
  refine WR_nil ?_
  refine thenN ?_
  refine W_seq ?_
  refine W_region ?_
  refine WR_val rfl (rn_move) ?_
  refine WR_val rfl (rn_neq rfl rfl) ?_
  refine WR_nil ?_
  refine thenN ?_
  refine W_tp rfl ((by simp)) ?_
  refine W_seq ?_
  refine W_region ?_
  refine WR_val rfl (rn_move) ?_
  refine WR_val rfl (rn_assign) ?_
  refine WR_nil ?_
  refine thenN ?_
  refine W_ret ?_
  refine thenR ?_
  refine ret_ret [_] ⟨rfl, trivial⟩ ?_
  exact ⟨rfl, rfl⟩
set_option maxRecDepth 20000 in
theorem nl18 {w : World} {q : Value} (h : NilL w q) : Calls Tryz.prog 29 [q].toArray w (Ret fun v w' => v = .int .i64 1 ∧ w = w') := by
  have hS := nl45 h
  refine calls_W (fn := Tryz.f29) (rs := [.tmp 2]) (n := 33) Tryz.func29 rfl rfl Tryz.ntmps29 (by kernel_rfl) rfl ?_
  refine W_seq ?_
  refine W_region ?_
  refine WR_val rfl (rn_assign) ?_
  refine WR_nil ?_
  refine thenN ?_
  refine W_seq ?_
  refine W_seq ?_
  refine W_region ?_
  refine WR_val rfl (rn_move) ?_
  refine WR_ent rfl (rn_call (by kernel_rfl) rfl) (hS) ?_
  rintro _ _ ⟨rfl, rfl⟩
  refine WR_val rfl (rn_assign) ?_
  refine WR_nil ?_
  refine thenN ?_
  refine W_seq ?_
  refine W_region ?_
  refine WR_val rfl (rn_move) ?_
  refine WR_val rfl (rn_neq rfl rfl) ?_
  refine WR_nil ?_
  refine thenN ?_
  refine W_tp rfl ((by simp)) ?_
  refine W_seq ?_
  refine W_region ?_
  refine WR_val rfl (rn_move) ?_
  refine WR_val rfl (rn_assign) ?_
  refine WR_nil ?_
  refine thenN ?_
  refine W_ret ?_
  refine thenR ?_
  refine ret_ret [_] ⟨rfl, trivial⟩ ?_
  exact ⟨rfl, rfl⟩
set_option maxRecDepth 20000 in
theorem nl19 {w : World} {q : Value} (h : NilL w q) : Calls Tryz.prog 20 [q].toArray w (Ret fun v w' => v = .int .i64 0 ∧ Below w.heap.size w w') := by
  have hB := Below.refl w.heap.size w
  rcases h with rfl | ⟨g, rfl, hr⟩
  refine calls_W (fn := Tryz.f20) (rs := [.tmp 2]) (n := 14) Tryz.func20 rfl rfl Tryz.ntmps20 (by kernel_rfl) rfl ?_
  refine W_seq ?_
  refine W_region ?_
  refine WR_val rfl (rn_assign) ?_
  refine WR_nil ?_
  refine thenN ?_
  refine W_seq ?_
  refine W_seq ?_
  refine W_region ?_
  refine WR_val rfl (rn_move) ?_
  refine WR_val rfl (rn_eqlP0 (by kernel_rfl) rfl rfl) ?_
  refine WR_nil ?_
  refine thenN ?_
  refine W_tb rfl (rfl) ?_
  refine W_seq ?_
  refine W_region ?_
  refine WR_val rfl (rn_assign) ?_
  refine WR_nil ?_
  refine thenN ?_
  refine W_ret ?_
  refine thenR ?_
  refine ret_ret [_] ⟨rfl, trivial⟩ ?_
  exact ⟨rfl, hB⟩
  unfold zeroLg at hr
  refine calls_W (fn := Tryz.f20) (rs := [.tmp 2]) (n := 14) Tryz.func20 rfl rfl Tryz.ntmps20 (by kernel_rfl) rfl ?_
  refine W_seq ?_
  refine W_region ?_
  refine WR_val rfl (rn_assign) ?_
  refine WR_nil ?_
  refine thenN ?_
  refine W_seq ?_
  refine W_seq ?_
  refine W_region ?_
  refine WR_val rfl (rn_move) ?_
  refine WR_val rfl (rn_eqlP1 (by kernel_rfl) rfl rfl) ?_
  refine WR_nil ?_
  refine thenN ?_
  refine W_fb rfl (rfl) ?_
  refine W_skip ?_
  refine thenN ?_
  refine W_seq ?_
  refine W_draw' [] (by kernel_rfl) ?_
  intro w901 hb901 hS901
  replace hr := hr.new hb901
  replace hB := hB.acc hb901
  have hr_d901 := hr
  have hB_d901 := hB
  refine WA_take 0 (by kernel_rfl) rfl (fun _ _ => rn_move) ?_
  refine WA_take 1 (by kernel_rfl) rfl (fun _ _ => rn_nilCheckP rfl) ?_
  refine WA_take 2 (by kernel_rfl) rfl (fun _ _ => rn_fieldAddr (off := 3) (by kernel_rfl) rfl) ?_
  refine WA_take 3 (by kernel_rfl) rfl (fun w' hS' => rn_load rfl (Ld.row1 (hr_d901.kpd hS' (by first | (simp; done) | (simp; omega) | (simp [*]; done) | exact notLL (Or.inl (by omega)) | exact notLL (Or.inr (by simp)) | exact fun g hm => Nat.le_trans (by omega) (inLL hm).1 | (intro b o e; cases e; exact notLL (Or.inl (by omega))) | (intro b hm; have := (hu.lt b (Option.mem_toList.1 hm)).1; omega) | (intro b o e; cases e; intro hm; have := (hu.lt _ (Option.mem_toList.1 hm)).1; omega))) (by kernel_rfl) rfl)) ?_
  refine WA_take 4 (by kernel_rfl) rfl (fun _ _ => rn_move) ?_
  refine WA_take 5 (by kernel_rfl) rfl (fun _ _ => rn_nilCheckP rfl) ?_
  refine WA_take 6 (by kernel_rfl) rfl (fun _ _ => rn_fieldAddr (off := 5) (by kernel_rfl) rfl) ?_
  refine WA_take 7 (by kernel_rfl) rfl (fun w' hS' => rn_load rfl (Ld.row1 (hr_d901.kpd hS' (by first | (simp; done) | (simp; omega) | (simp [*]; done) | exact notLL (Or.inl (by omega)) | exact notLL (Or.inr (by simp)) | exact fun g hm => Nat.le_trans (by omega) (inLL hm).1 | (intro b o e; cases e; exact notLL (Or.inl (by omega))) | (intro b hm; have := (hu.lt b (Option.mem_toList.1 hm)).1; omega) | (intro b o e; cases e; intro hm; have := (hu.lt _ (Option.mem_toList.1 hm)).1; omega))) (by kernel_rfl) rfl)) ?_
  refine WA_take 8 (by kernel_rfl) rfl (fun _ _ => rn_sub rfl rfl (Coup.w64 (by omega))) ?_
  refine WA_take 9 (by kernel_rfl) rfl (fun _ _ => rn_assign) ?_
  refine WA_done (by kernel_rfl) ?_
  refine thenN ?_
  refine W_ret ?_
  refine ret_ret [_] ⟨rfl, trivial⟩ ?_
  exact ⟨rfl, hB⟩
set_option maxRecDepth 20000 in
theorem nl20 {w : World} {q : Value} (h : NilL w q) : Calls Tryz.prog 17 [q].toArray w (Ret fun v w' => v = .int .u64 0 ∧ w = w') := by
  rcases h with rfl | ⟨g, rfl, hr⟩
  refine calls_W (fn := Tryz.f17) (rs := [.tmp 2]) (n := 10) Tryz.func17 rfl rfl Tryz.ntmps17 (by kernel_rfl) rfl ?_
  refine W_seq ?_
  refine W_region ?_
  refine WR_val rfl (rn_assign) ?_
  refine WR_nil ?_
  refine thenN ?_
  refine W_seq ?_
  refine W_seq ?_
  refine W_region ?_
  refine WR_val rfl (rn_move) ?_
  refine WR_val rfl (rn_eqlP0 (by kernel_rfl) rfl rfl) ?_
  refine WR_nil ?_
  refine thenN ?_
  refine W_tb rfl (rfl) ?_
  refine W_seq ?_
  refine W_region ?_
  refine WR_val rfl (rn_assign) ?_
  refine WR_nil ?_
  refine thenN ?_
  refine W_ret ?_
  refine thenR ?_
  refine ret_ret [_] ⟨rfl, trivial⟩ ?_
  exact ⟨rfl, rfl⟩
  unfold zeroLg at hr
  refine calls_W (fn := Tryz.f17) (rs := [.tmp 2]) (n := 10) Tryz.func17 rfl rfl Tryz.ntmps17 (by kernel_rfl) rfl ?_
  refine W_seq ?_
  refine W_region ?_
  refine WR_val rfl (rn_assign) ?_
  refine WR_nil ?_
  refine thenN ?_
  refine W_seq ?_
  refine W_seq ?_
  refine W_region ?_
  refine WR_val rfl (rn_move) ?_
  refine WR_val rfl (rn_eqlP1 (by kernel_rfl) rfl rfl) ?_
  refine WR_nil ?_
  refine thenN ?_
  refine W_fb rfl (rfl) ?_
  refine W_skip ?_
  refine thenN ?_
  refine W_seq ?_
  refine W_region ?_
  refine WR_val rfl (rn_move) ?_
  refine WR_val rfl (rn_nilCheckP rfl) ?_
  refine WR_val rfl (rn_fieldAddr (off := 0) (by kernel_rfl) rfl) ?_
  refine WR_val rfl (rn_fieldAddr (off := 0) (by kernel_rfl) rfl) ?_
  refine WR_val rfl (rn_load rfl (Ld.row1 hr (by kernel_rfl) rfl)) ?_
  refine WR_val rfl (rn_assign) ?_
  refine WR_nil ?_
  refine thenN ?_
  refine W_ret ?_
  refine ret_ret [_] ⟨rfl, trivial⟩ ?_
  exact ⟨rfl, rfl⟩
set_option maxRecDepth 20000 in
theorem nl21 {w : World} {q : Value} (h : NilL w q) : Calls Tryz.prog 18 [q].toArray w (Ret fun v w' => v = .int .u64 0 ∧ w = w') := by
  rcases h with rfl | ⟨g, rfl, hr⟩
  refine calls_W (fn := Tryz.f18) (rs := [.tmp 2]) (n := 10) Tryz.func18 rfl rfl Tryz.ntmps18 (by kernel_rfl) rfl ?_
  refine W_seq ?_
  refine W_region ?_
  refine WR_val rfl (rn_assign) ?_
  refine WR_nil ?_
  refine thenN ?_
  refine W_seq ?_
  refine W_seq ?_
  refine W_region ?_
  refine WR_val rfl (rn_move) ?_
  refine WR_val rfl (rn_eqlP0 (by kernel_rfl) rfl rfl) ?_
  refine WR_nil ?_
  refine thenN ?_
  refine W_tb rfl (rfl) ?_
  refine W_seq ?_
  refine W_region ?_
  refine WR_val rfl (rn_assign) ?_
  refine WR_nil ?_
  refine thenN ?_
  refine W_ret ?_
  refine thenR ?_
  refine ret_ret [_] ⟨rfl, trivial⟩ ?_
  exact ⟨rfl, rfl⟩
  unfold zeroLg at hr
  refine calls_W (fn := Tryz.f18) (rs := [.tmp 2]) (n := 10) Tryz.func18 rfl rfl Tryz.ntmps18 (by kernel_rfl) rfl ?_
  refine W_seq ?_
  refine W_region ?_
  refine WR_val rfl (rn_assign) ?_
  refine WR_nil ?_
  refine thenN ?_
  refine W_seq ?_
  refine W_seq ?_
  refine W_region ?_
  refine WR_val rfl (rn_move) ?_
  refine WR_val rfl (rn_eqlP1 (by kernel_rfl) rfl rfl) ?_
  refine WR_nil ?_
  refine thenN ?_
  refine W_fb rfl (rfl) ?_
  refine W_skip ?_
  refine thenN ?_
  refine W_seq ?_
  refine W_region ?_
  refine WR_val rfl (rn_move) ?_
  refine WR_val rfl (rn_nilCheckP rfl) ?_
  refine WR_val rfl (rn_fieldAddr (off := 0) (by kernel_rfl) rfl) ?_
  refine WR_val rfl (rn_fieldAddr (off := 1) (by kernel_rfl) rfl) ?_
  refine WR_val rfl (rn_load rfl (Ld.row1 hr (by kernel_rfl) rfl)) ?_
  refine WR_val rfl (rn_assign) ?_
  refine WR_nil ?_
  refine thenN ?_
  refine W_ret ?_
  refine ret_ret [_] ⟨rfl, trivial⟩ ?_
  exact ⟨rfl, rfl⟩
set_option maxRecDepth 20000 in
theorem nl22 {w : World} {q : Value} (h : NilL w q) : Calls Tryz.prog 19 [q].toArray w (Ret fun v w' => v = .int .i64 0 ∧ w = w') := by
  rcases h with rfl | ⟨g, rfl, hr⟩
  refine calls_W (fn := Tryz.f19) (rs := [.tmp 2]) (n := 9) Tryz.func19 rfl rfl Tryz.ntmps19 (by kernel_rfl) rfl ?_
  refine W_seq ?_
  refine W_region ?_
  refine WR_val rfl (rn_assign) ?_
  refine WR_nil ?_
  refine thenN ?_
  refine W_seq ?_
  refine W_seq ?_
  refine W_region ?_
  refine WR_val rfl (rn_move) ?_
  refine WR_val rfl (rn_eqlP0 (by kernel_rfl) rfl rfl) ?_
  refine WR_nil ?_
  refine thenN ?_
  refine W_tb rfl (rfl) ?_
  refine W_seq ?_
  refine W_region ?_
  refine WR_val rfl (rn_assign) ?_
  refine WR_nil ?_
  refine thenN ?_
  refine W_ret ?_
  refine thenR ?_
  refine ret_ret [_] ⟨rfl, trivial⟩ ?_
  exact ⟨rfl, rfl⟩
  unfold zeroLg at hr
  refine calls_W (fn := Tryz.f19) (rs := [.tmp 2]) (n := 9) Tryz.func19 rfl rfl Tryz.ntmps19 (by kernel_rfl) rfl ?_
  refine W_seq ?_
  refine W_region ?_
  refine WR_val rfl (rn_assign) ?_
  refine WR_nil ?_
  refine thenN ?_
  refine W_seq ?_
  refine W_seq ?_
  refine W_region ?_
  refine WR_val rfl (rn_move) ?_
  refine WR_val rfl (rn_eqlP1 (by kernel_rfl) rfl rfl) ?_
  refine WR_nil ?_
  refine thenN ?_
  refine W_fb rfl (rfl) ?_
  refine W_skip ?_
  refine thenN ?_
  refine W_seq ?_
  refine W_region ?_
  refine WR_val rfl (rn_move) ?_
  refine WR_val rfl (rn_nilCheckP rfl) ?_
  refine WR_val rfl (rn_fieldAddr (off := 4) (by kernel_rfl) rfl) ?_
  refine WR_val rfl (rn_load rfl (Ld.row1 hr (by kernel_rfl) rfl)) ?_
  refine WR_val rfl (rn_assign) ?_
  refine WR_nil ?_
  refine thenN ?_
  refine W_ret ?_
  refine ret_ret [_] ⟨rfl, trivial⟩ ?_
  exact ⟨rfl, rfl⟩
set_option maxRecDepth 20000 in
theorem nl23 {w : World} {q : Value} (h : NilL w q) : Calls Tryz.prog 22 [q].toArray w (Ret fun v w' => v = .bool false ∧ w = w') := by
  rcases h with rfl | ⟨g, rfl, hr⟩
  refine calls_W (fn := Tryz.f22) (rs := [.tmp 2]) (n := 11) Tryz.func22 rfl rfl Tryz.ntmps22 (by kernel_rfl) rfl ?_
  refine W_seq ?_
  refine W_region ?_
  refine WR_val rfl (rn_assign) ?_
  refine WR_nil ?_
  refine thenN ?_
  refine W_seq ?_
  refine W_region ?_
  refine WR_val rfl (rn_move) ?_
  refine WR_val rfl (rn_neqP0 (by kernel_rfl) rfl rfl) ?_
  refine WR_val rfl (rn_move) ?_
  refine WR_fb 5 rfl (rfl) ?_
  refine WR_no rfl rfl ?_
  refine WR_no rfl rfl ?_
  refine WR_no rfl rfl ?_
  refine WR_no rfl rfl ?_
  refine WR_val rfl (rn_pick_f rfl) ?_
  refine WR_val rfl (rn_assign) ?_
  refine WR_nil ?_
  refine thenN ?_
  refine W_ret ?_
  refine ret_ret [_] ⟨rfl, trivial⟩ ?_
  exact ⟨rfl, rfl⟩
  unfold zeroLg at hr
  refine calls_W (fn := Tryz.f22) (rs := [.tmp 2]) (n := 11) Tryz.func22 rfl rfl Tryz.ntmps22 (by kernel_rfl) rfl ?_
  refine W_seq ?_
  refine W_region ?_
  refine WR_val rfl (rn_assign) ?_
  refine WR_nil ?_
  refine thenN ?_
  refine W_seq ?_
  refine W_region ?_
  refine WR_val rfl (rn_move) ?_
  refine WR_val rfl (rn_neqP1 (by kernel_rfl) rfl rfl) ?_
  refine WR_val rfl (rn_move) ?_
  refine WR_tb 5 rfl (rfl) ?_
  refine WR_yes rfl ?_
  refine WR_val rfl (rn_move) ?_
  refine WR_yes rfl ?_
  refine WR_val rfl (rn_nilCheckP rfl) ?_
  refine WR_yes rfl ?_
  refine WR_val rfl (rn_fieldAddr (off := 6) (by kernel_rfl) rfl) ?_
  refine WR_yes rfl ?_
  refine WR_val rfl (rn_load rfl (Ld.row1 hr (by kernel_rfl) rfl)) ?_
  refine WR_val rfl (rn_pick_t rfl) ?_
  refine WR_val rfl (rn_assign) ?_
  refine WR_nil ?_
  refine thenN ?_
  refine W_ret ?_
  refine ret_ret [_] ⟨rfl, trivial⟩ ?_
  exact ⟨rfl, rfl⟩
end Go.Proofs.YtkkgahgpemepeaaGreat

/- What a log says, half by half: rows whose last half may be anything. -/
namespace Go.Proofs.YtkkgahgpemepeaaGreat
open Go Go.RowKit Coup

theorem half_app {P X : List UInt8} {i : Nat} (h : 64 * (i + 1) ≤ P.length) : halfAt (P ++ X) i = halfAt P i := by
  rw [halfAt, halfAt, List.drop_append_of_le_length (by omega), List.take_append_of_le_length (by rw [List.length_drop]; omega)]
theorem half_app2 {P X : List UInt8} {i k : Nat} (h : P.length = 64 * k) : halfAt (P ++ X) (k + i) = halfAt X i := by
  rw [halfAt, halfAt, show 64 * (k + i) = P.length + 64 * i by omega, ← List.drop_drop, List.drop_left' rfl]
theorem half_drop (X : List UInt8) (i k : Nat) : halfAt (X.drop (64 * k)) i = halfAt X (k + i) := by rw [halfAt, halfAt, List.drop_drop, ← Nat.mul_add]
theorem half_take {X : List UInt8} {i k : Nat} (h : i < k) : halfAt (X.take (64 * k)) i = halfAt X i := by
  rw [halfAt, halfAt, List.drop_take, List.take_take, Nat.min_eq_left (by omega)]
theorem halves_ext : ∀ (k : Nat) {A B : List UInt8}, A.length = 64 * k → B.length = 64 * k → (∀ i, i < k → halfAt A i = halfAt B i) → A = B
  | 0, A, B, ha, hb, _ => by rw [List.eq_nil_of_length_eq_zero (by omega : A.length = 0), List.eq_nil_of_length_eq_zero (by omega : B.length = 0)]
  | k + 1, A, B, ha, hb, h => by
    have h0 := h 0 (by omega)
    rw [halfAt, halfAt, Nat.mul_zero, List.drop_zero, List.drop_zero] at h0
    have ih := halves_ext k (A := A.drop 64) (B := B.drop 64) (by rw [List.length_drop]; omega) (by rw [List.length_drop]; omega) fun i hi => by
      have := h (1 + i) (by omega)
      rw [← half_drop, ← half_drop] at this
      exact this
    rw [← List.take_append_drop 64 A, ← List.take_append_drop 64 B, h0, ih]
/-- A row's image: its halves; behind them (if they are an odd number) anything. -/
def RowIm (c nn : Nat) (b P : List UInt8) : Prop := P.length = 128 * needN b.length ∧ ∀ i, i < manyN b.length → halfAt P i = halfB c nn i (manyN b.length) (pieceB b i)
theorem row_im (c nn : Nat) (b : List UInt8) : RowIm c nn b (rowB c nn b) := ⟨rowB_len c nn b, fun i hi => by
  have := row_half c nn b [] i hi
  rwa [List.append_nil] at this⟩
theorem told_im {c nn : Nat} {b P : List UInt8} (X : List UInt8) {n : Nat} (him : RowIm c nn b P) (hm : mayT c nn = true) (hb : b.length ≤ 32768) (hn : needN b.length ≤ n) (hl : (P ++ X).length = n * 128) : Told (P ++ X) n c nn b := by
  have hmb := may_bounds hm
  have hp := manyN_pos b.length
  have hmx := manyN_max hb
  have hrow : ∀ i, i < manyN b.length → halfAt (P ++ X) i = halfB c nn i (manyN b.length) (pieceB b i) := fun i hi => by
    rw [half_app (by rw [him.1]; unfold needN; omega)]; exact him.2 i hi
  have h0 := hrow 0 (by omega)
  obtain ⟨f1, f2, -, f4, -⟩ := halfB_fields c nn 0 (manyN b.length) (pieceB b 0)
  rw [← h0, Nat.mod_eq_of_lt (by omega)] at f1
  rw [← h0, Nat.mod_eq_of_lt (by omega)] at f2
  rw [← h0, Nat.mod_eq_of_lt (by omega)] at f4
  have hml : 64 * manyN b.length ≤ (P ++ X).length := by rw [hl]; unfold needN at hn; omega
  have hbod : bodies (P ++ X) (manyN b.length) = allB b := bodies_eq _ _ _ (allB_length b) fun i hi => by
    rw [hrow i hi, (halfB_fields c nn i _ _).2.2.2.2]; rfl
  have hK : joinK (P ++ X) (manyN b.length) = b.length := by
    rw [joinK, hbod, allB_take, numB_beB, Nat.mod_eq_of_lt (by omega)]
  have hJB : joinB (P ++ X) = b := by rw [joinB, f4, hK, hbod, allB_mid]
  refine ⟨?_, f1, f2, hJB⟩
  rw [← refIs_eq _ _ hl]
  have ht := tag_yes (h := halfAt (P ++ X) 0) (by rw [f1, f2]; exact hm)
  unfold refIs refOk
  rw [ht.1, ht.2, f1, f2, f4, hm, refK_eq _ _ hml hp, hK, hJB, decide_eq_true (by omega : 0 < n), decide_eq_true (by unfold needN at hn; omega : 1 ≤ manyN b.length ∧ manyN b.length ≤ 2 * n), decide_eq_true (by omega : b.length ≤ 32768 ∧ manyN b.length = manyN b.length)]
  simp only [Bool.true_and]
  refine List.all_eq_true.2 fun i hi => ?_
  have hi' := List.mem_range.1 hi
  rw [halvesL_get c nn b i hi', hrow i hi']
  simp
theorem rowsL_im {c nn : Nat} {b P X : List UInt8} {n f : Nat} (him : RowIm c nn b P) (hm : mayT c nn = true) (hb : b.length ≤ 32768) (hn : needN b.length ≤ n) (hl : (P ++ X).length = n * 128) :
    rowsL (f + 1) (P ++ X) n = ⟨c, nn, b⟩ :: rowsL f X (n - needN b.length) := by
  obtain ⟨t1, t2, t3, t4⟩ := told_im X him hm hb hn hl
  rw [rowsL, if_pos t1, t2, t3, t4, List.drop_left' him.1]
/-- Rows' images one behind the other, from number k on. -/
def tellP : Nat → List (Nat × Rec) → List UInt8 → Prop
  | _, [], P => P = []
  | k, x :: T, P => ∃ P1 P2, P = P1 ++ P2 ∧ RowIm x.1 k (recB x.2) P1 ∧ tellP (k + 1) T P2
theorem tellP_len : ∀ {k s c : Nat} {T : List (Nat × Rec)} {P : List UInt8}, okT s c T → tellP k T P → P.length = 128 * atT T
  | k, s, c, [], P, h, hp => by rw [show P = [] from hp]; rfl
  | k, s, c, x :: T, P, h, hp => by
    obtain ⟨P1, P2, rfl, h1, h2⟩ := hp
    obtain ⟨_, _, h3, _⟩ := h x (List.mem_cons_self ..)
    have ih := tellP_len (fun y hy => h y (List.mem_cons_of_mem _ hy)) h2
    rw [List.length_append, h1.1, recB_len h3, ih, atT_cons, Nat.mul_add]
theorem tellP_snoc : ∀ {k : Nat} {T : List (Nat × Rec)} {P Q : List UInt8} {c : Nat} {r : Rec}, tellP k T P → RowIm c (k + T.length) (recB r) Q → tellP k (T ++ [(c, r)]) (P ++ Q)
  | k, [], P, Q, c, r, h, hq => by
    rw [show P = [] from h]
    exact ⟨Q, [], by simp, hq, rfl⟩
  | k, x :: T, P, Q, c, r, h, hq => by
    obtain ⟨P1, P2, rfl, h1, h2⟩ := h
    refine ⟨P1, P2 ++ Q, by rw [List.append_assoc], h1, tellP_snoc h2 ?_⟩
    rw [List.length_cons, show k + (T.length + 1) = k + 1 + T.length by omega] at hq
    exact hq
theorem may_of {c k s cm : Nat} (h1 : 1 ≤ s) (h2 : s ≤ c) (h3 : c ≤ cm) (h4 : cm ≤ 4611686018427387904) (h5 : k < 2147483648) : mayT ((c : Nat) : Int) ((k : Nat) : Int) = true := by
  unfold mayT
  rw [decide_eq_true (by omega), decide_eq_true (by unfold maxCount; omega), decide_eq_true (by omega), decide_eq_true (by omega)]; rfl
theorem recs_im : ∀ (T : List (Nat × Rec)) {s c k n f : Nat} {P X : List UInt8}, 1 ≤ s → c ≤ 4611686018427387904 → okT s c T → tellP k T P → k + T.length < 2147483648 → (P ++ X).length = n * 128 → n ≤ f →
    recsL s c k (rowsL f (P ++ X) n) = T.map (·.2) ++ recsL s c (k + T.length) (rowsL (n - atT T) X (n - atT T))
  | [], s, c, k, n, f, P, X, h1, h2, h3, hP, h4, h5, h6 => by
    rw [show P = [] from hP, List.nil_append] at h5 ⊢
    have e : atT [] = 0 := rfl
    rw [e, Nat.sub_zero, rowsL_fuel f n X n h6 (Nat.le_refl _) (by omega)]; rfl
  | x :: T, s, c, k, n, f, P, X, h1, h2, h3, hP, h4, h5, h6 => by
    obtain ⟨P1, P2, rfl, hp1, hp2⟩ := hP
    obtain ⟨a1, a2, a3, a4⟩ := h3 x (List.mem_cons_self ..)
    have hrest : okT s c T := fun y hy => h3 y (List.mem_cons_of_mem _ hy)
    rw [List.length_cons] at h4
    have hsh := rec_short a3 a4
    have hrl := hp1.1
    have hrb := recB_len a3
    have htl := tellP_len hrest hp2
    rw [List.append_assoc] at h5 ⊢
    have hlen := h5
    rw [List.length_append, hrl] at hlen
    have hpos := (needW_pos (of_decide_eq_true (Bool.and_eq_true_iff.1 a4).1)).2
    rw [← hrb] at hpos
    have hmt := may_of (k := k) h1 a1 a2 h2 (by omega)
    obtain ⟨f, rfl⟩ : ∃ z, f = z + 1 := ⟨f - 1, by omega⟩
    rw [rowsL_im hp1 hmt hsh (by omega) h5]
    have hok : okRow s c k ⟨x.1, k, recB x.2⟩ = some x.2 := by
      rw [okRow, if_pos ⟨rfl, a1, a2⟩]; exact ofR_rec a3 a4
    have hr := recs_im T (s := s) (c := c) (k := k + 1) (n := n - needN (recB x.2).length) (f := f) (X := X) h1 h2 hrest hp2 (by omega) (by rw [Nat.sub_mul]; omega) (by omega)
    rw [recsL_some hok, hr, List.map_cons, List.cons_append, atT_cons, hrb, List.length_cons, show k + 1 + T.length = k + (T.length + 1) by omega, Nat.sub_sub]
/-! ### What is joined depends on its halves alone -/
theorem join_halves {l : List UInt8} {n : Nat} (hj : joinIs l n = true) : 0 < hMany (halfAt l 0) ∧ hMany (halfAt l 0) ≤ 683 ∧ (hMany (halfAt l 0) + 1) / 2 ≤ n ∧ ∀ i, i < hMany (halfAt l 0) → goodH (halfAt l i) (hCount (halfAt l 0)) (hNum (halfAt l 0)) i (hMany (halfAt l 0)) = true := by
  unfold joinIs joinMay joinOk at hj
  simp only [Bool.and_eq_true, decide_eq_true_eq, List.all_eq_true, List.mem_range] at hj
  obtain ⟨⟨h0, ⟨⟨⟨hmay, hm1⟩, hm2⟩, hm3⟩⟩, ⟨⟨hall, hK⟩, hmk⟩, hz⟩ := hj
  exact ⟨by omega, hm2, hm3, hall⟩
theorem good_facts {h : List UInt8} {c nn i m : Nat} (hg : goodH h c nn i m = true) : mayT (hCount h) (hNum h) = true ∧ hCount h = c ∧ hNum h = nn ∧ hMany h = m := by
  simp only [goodH, Bool.and_eq_true, decide_eq_true_eq] at hg
  exact ⟨hg.1.1.1, hg.1.1.2.1, hg.1.1.2.2, hg.2⟩
theorem bodies_cong {l l' : List UInt8} : ∀ {m : Nat}, (∀ i, i < m → halfAt l' i = halfAt l i) → bodies l' m = bodies l m
  | 0, _ => rfl
  | m + 1, h => by rw [bodies_succ, bodies_succ, bodies_cong fun i hi => h i (by omega), h m (by omega)]
theorem join_cong {l l' : List UInt8} {n : Nat} (hj : joinIs l n = true) (h : ∀ i, i < hMany (halfAt l 0) → halfAt l' i = halfAt l i) : joinIs l' n = true ∧ joinB l' = joinB l ∧ halfAt l' 0 = halfAt l 0 := by
  have h0 := h 0 (join_halves hj).1
  have hb := bodies_cong h
  have hb2 : bodies l' (hMany (halfAt l' 0)) = bodies l (hMany (halfAt l 0)) := by rw [h0, hb]
  have hK : joinK l' (hMany (halfAt l' 0)) = joinK l (hMany (halfAt l 0)) := by rw [joinK, joinK, hb2]
  have hB : joinB l' = joinB l := by rw [joinB, joinB, hb2, hK]
  refine ⟨?_, hB, h0⟩
  have hO : joinOk l' (hCount (halfAt l' 0)) (hNum (halfAt l' 0)) (hMany (halfAt l' 0)) = joinOk l (hCount (halfAt l 0)) (hNum (halfAt l 0)) (hMany (halfAt l 0)) := by
    unfold joinOk
    rw [hK, hb2, h0]
    congr 3
    rw [Bool.eq_iff_iff, List.all_eq_true, List.all_eq_true]
    exact ⟨fun hh i hi => by rw [← h i (List.mem_range.1 hi)]; exact hh i hi, fun hh i hi => by rw [h i (List.mem_range.1 hi)]; exact hh i hi⟩
  have : joinIs l' n = joinIs l n := by
    unfold joinIs joinMay
    rw [hO, h0]
  rw [this]; exact hj
end Go.Proofs.YtkkgahgpemepeaaGreat

/- What stands in a log's sectors from opening to opening; a record on its way; what a loss of power makes of it. -/
namespace Go.Proofs.YtkkgahgpemepeaaGreat
open Go Go.RowKit Coup

/-- A half that bears a tag. -/
def mayH (h : List UInt8) : Prop := mayT ((hCount h : Nat) : Int) ((hNum h : Nat) : Int) = true
/-- What X begins with is not the next record. -/
def noNext (s k m : Nat) (X : List UInt8) : Prop := joinIs X m = true → s ≤ hCount (halfAt X 0) → hNum (halfAt X 0) = k → ofR (joinB X) = none
/-- What stands in a log's n sectors: the records T (counts from s to c), behind them halves whose counts are below cx, and none of whose numbers is beyond T's (if their counts count). -/
structure Inv (n c cx s : Nat) (T : List (Nat × Rec)) (B : List UInt8) : Prop where
  len : B.length = 128 * n
  s1 : 1 ≤ s
  sc : s ≤ c
  ok : okT s c T
  low : ∀ i, i < 2 * n → mayH (halfAt B i) → hCount (halfAt B i) ≤ c
  ex : ∃ P X, B = P ++ X ∧ tellP 0 T P ∧ atT T ≤ n ∧ (∀ i, i < 2 * (n - atT T) → mayH (halfAt X i) → hCount (halfAt X i) < cx ∧ (s ≤ hCount (halfAt X i) → hNum (halfAt X i) ≤ T.length)) ∧ noNext s T.length (n - atT T) X
theorem atT_len {s c : Nat} : ∀ {T : List (Nat × Rec)}, okT s c T → T.length ≤ atT T
  | [], _ => Nat.le_refl _
  | x :: T, h => by
    have ih := atT_len (T := T) fun y hy => h y (List.mem_cons_of_mem _ hy)
    obtain ⟨_, _, h3, h4⟩ := h x (List.mem_cons_self ..)
    have hpos := (needW_pos (of_decide_eq_true (Bool.and_eq_true_iff.1 h4).1)).2
    rw [atT_cons, List.length_cons]; omega
theorem next_none {s c k m : Nat} {X : List UInt8} (h : noNext s k m X) : recsL s c k (rowsL m X m) = [] := by
  cases m with
  | zero => rfl
  | succ m =>
    rw [rowsL]
    cases hj : joinIs X (m + 1) with
    | false => rfl
    | true =>
      rw [if_pos rfl]
      refine recsL_none ?_
      unfold okRow
      by_cases hc : hNum (halfAt X 0) = k ∧ s ≤ hCount (halfAt X 0) ∧ hCount (halfAt X 0) ≤ c
      · rw [if_pos hc]; exact h hj hc.2.1 hc.1
      · rw [if_neg hc]
namespace Inv
variable {n c cx s : Nat} {T : List (Nat × Rec)} {B : List UInt8}
theorem recs (h : Inv n c cx s T B) (hc : c ≤ 4611686018427387904) (hn : n ≤ 4000) : recsL s c 0 (rowsL n B n) = T.map (·.2) := by
  obtain ⟨P, X, rfl, hP, hat, _, hno⟩ := h.ex
  have hl := atT_len h.ok
  rw [recs_im T h.s1 hc h.ok hP (by omega) (by rw [h.len]; omega) (Nat.le_refl _), Nat.zero_add, next_none hno, List.append_nil]
theorem up {c' cx' : Nat} (h : Inv n c cx s T B) (hc : c ≤ c') (hx : cx ≤ cx') : Inv n c' cx' s T B :=
  ⟨h.len, h.s1, Nat.le_trans h.sc hc, fun x hx => let ⟨a, b, d⟩ := h.ok x hx; ⟨a, Nat.le_trans b hc, d⟩, fun i hi hm => Nat.le_trans (h.low i hi hm) hc,
    let ⟨P, X, e, h1, h2, h3, h4⟩ := h.ex; ⟨P, X, e, h1, h2, fun i hi hm => ⟨Nat.lt_of_lt_of_le (h3 i hi hm).1 hx, (h3 i hi hm).2⟩, h4⟩⟩
/-- The records let go. -/
theorem trunc (h : Inv n c cx s T B) : Inv n (c + 1) (c + 1) (c + 1) [] B :=
  ⟨h.len, by omega, Nat.le_refl _, fun x hx => (nomatch hx), fun i hi hm => Nat.le_succ_of_le (h.low i hi hm), [], B, rfl, rfl, Nat.zero_le _, fun i hi hm => by
    have hi' : i < 2 * n := by
      have e : atT [] = 0 := rfl
      rw [e] at hi; omega
    have := h.low i hi' hm
    exact ⟨by omega, fun h2 => by omega⟩, fun hj hs hk => by
    have h0 := (join_halves hj).2.2.2 0 (join_halves hj).1
    have hn0 : 0 < n := by
      have := (join_facts hj).1
      have e : atT [] = 0 := rfl
      rw [e] at this; omega
    have := h.low 0 (by omega) (good_facts h0).1
    omega⟩
end Inv
theorem zero_not (h : List UInt8) (h0 : hCount h = 0) : ¬ mayH h := fun hm => by
  have := (may_bounds hm).1
  omega
/-- The halves of a row: each bears the row's tag, or none. -/
theorem row_halves {c k : Nat} {b : List UInt8} (hmt : mayT ((c : Nat) : Int) ((k : Nat) : Int) = true) (hb : b.length ≤ 32768) {i : Nat} (hi : i < 2 * needN b.length) (hm : mayH (halfAt (rowB c k b) i)) :
    i < manyN b.length ∧ hCount (halfAt (rowB c k b) i) = c ∧ hNum (halfAt (rowB c k b) i) = k ∧ hMany (halfAt (rowB c k b) i) = manyN b.length := by
  have hmb := may_bounds hmt
  have hmx := manyN_max hb
  by_cases hlt : i < manyN b.length
  · have hr := row_half c k b [] i hlt
    rw [List.append_nil] at hr
    obtain ⟨f1, f2, -, f4, -⟩ := halfB_fields c k i (manyN b.length) (pieceB b i)
    rw [← hr, Nat.mod_eq_of_lt (by omega)] at f1
    rw [← hr, Nat.mod_eq_of_lt (by omega)] at f2
    rw [← hr, Nat.mod_eq_of_lt (by omega)] at f4
    exact ⟨hlt, f1, f2, f4⟩
  · refine absurd hm (zero_not _ ?_)
    have hl : ((halvesL c k b).flatten).length = 64 * manyN b.length := by rw [flat64 _ (halvesL_64 c k b), halvesL_len]
    rw [hCount, halfAt, rowB, show 64 * i = ((halvesL c k b).flatten).length + 64 * (i - manyN b.length) by rw [hl]; omega, ← List.drop_drop, List.drop_left' rfl, zeros_drop, zeros_take, zeros_take, numB_zeros]
section
variable {n c s : Nat} {T : List (Nat × Rec)} {P X X' : List UInt8} {r : Rec}
/-- A record on its way: of each half of its sectors the old or the new one is left. -/
theorem inv_mix (h : Inv n c c s T (P ++ X)) (hP : tellP 0 T P) (hX : X.length = 128 * (n - atT T)) (hat : atT T ≤ n)
    (h3 : ∀ i, i < 2 * (n - atT T) → mayH (halfAt X i) → hCount (halfAt X i) < c ∧ (s ≤ hCount (halfAt X i) → hNum (halfAt X i) ≤ T.length)) (h4 : noNext s T.length (n - atT T) X)
    (hc : c ≤ 4611686018427387904) (hn : n ≤ 4000) (hr : chsOk r) (hm : mayR r = true) (hfit : atT T + needN (516 * r.length) ≤ n) (hX' : X'.length = X.length)
    (hmix : ∀ i, i < 2 * (n - atT T) → halfAt X' i = halfAt X i ∨ (i < 2 * needN (516 * r.length) ∧ halfAt X' i = halfAt (rowB c T.length (recB r)) i)) :
    Inv n c (c + 1) s T (P ++ X') ∨ Inv n c (c + 1) s (T ++ [(c, r)]) (P ++ X') := by
  have hTl := atT_len h.ok
  have hPl := tellP_len h.ok hP
  have hmt := may_of (k := T.length) h.s1 h.sc (Nat.le_refl c) hc (by omega)
  have hrb := recB_len hr
  have hsh := rec_short hr hm
  have hN : needN (recB r).length = needN (516 * r.length) := by rw [hrb]
  have hlen : (P ++ X').length = 128 * n := by rw [List.length_append, hX', hX, hPl]; omega
  -- each half of X' that bears a tag
  have hall : ∀ i, i < 2 * (n - atT T) → mayH (halfAt X' i) → hCount (halfAt X' i) ≤ c ∧ (s ≤ hCount (halfAt X' i) → hNum (halfAt X' i) ≤ T.length) := fun i hi hmi => by
    rcases hmix i hi with e | ⟨hik, e⟩
    · rw [e] at hmi ⊢
      have := h3 i hi hmi
      exact ⟨by omega, this.2⟩
    · rw [e] at hmi ⊢
      obtain ⟨_, q1, q2, _⟩ := row_halves hmt hsh (by rw [hN]; exact hik) hmi
      rw [q1, q2]
      exact ⟨Nat.le_refl _, fun _ => Nat.le_refl _⟩
  have hlow : ∀ i, i < 2 * n → mayH (halfAt (P ++ X') i) → hCount (halfAt (P ++ X') i) ≤ c := fun i hi hmi => by
    by_cases hip : i < 2 * atT T
    · have e1 : halfAt (P ++ X') i = halfAt P i := half_app (by omega)
      have e2 : halfAt (P ++ X) i = halfAt P i := half_app (by omega)
      rw [e1, ← e2] at hmi ⊢
      exact h.low i hi hmi
    · have e1 : halfAt (P ++ X') i = halfAt X' (i - 2 * atT T) := by
        have := half_app2 (X := X') (i := i - 2 * atT T) (k := 2 * atT T) (P := P) (by omega)
        rwa [show 2 * atT T + (i - 2 * atT T) = i by omega] at this
      rw [e1] at hmi ⊢
      exact (hall _ (by omega) hmi).1
  by_cases hacc : joinIs X' (n - atT T) = true ∧ s ≤ hCount (halfAt X' 0) ∧ hNum (halfAt X' 0) = T.length ∧ ofR (joinB X') ≠ none
  · obtain ⟨hj, hs, hk, hof⟩ := hacc
    obtain ⟨j1, j2, j3, j4⟩ := join_halves hj
    obtain ⟨g1, _⟩ := good_facts (j4 0 j1)
    have hc0 := (hall 0 (by omega) g1).1
    by_cases hlt : hCount (halfAt X' 0) < c
    · -- an old row
      exfalso
      have hcong : ∀ i, i < hMany (halfAt X' 0) → halfAt X i = halfAt X' i := fun i hi => by
        obtain ⟨f1, f2, _⟩ := good_facts (j4 i hi)
        rcases hmix i (by omega) with e | ⟨hik, e⟩
        · exact e.symm
        · have f1' : mayH (halfAt (rowB c T.length (recB r)) i) := by rw [← e]; exact f1
          obtain ⟨_, q1, _⟩ := row_halves hmt hsh (by rw [hN]; exact hik) f1'
          rw [e, q1] at f2
          omega
      obtain ⟨k1, k2, k3⟩ := join_cong hj hcong
      have := h4 k1 (by rw [k3]; exact hs) (by rw [k3]; exact hk)
      rw [k2] at this
      exact hof this
    · -- the new one, whole
      right
      have hceq : hCount (halfAt X' 0) = c := by omega
      have hnew : ∀ i, i < hMany (halfAt X' 0) → i < manyN (recB r).length ∧ halfAt X' i = halfAt (rowB c T.length (recB r)) i ∧ hMany (halfAt X' 0) = manyN (recB r).length := fun i hi => by
        obtain ⟨f1, f2, _, f4⟩ := good_facts (j4 i hi)
        rcases hmix i (by omega) with e | ⟨hik, e⟩
        · have f1' : mayH (halfAt X i) := by rw [← e]; exact f1
          have := (h3 i (by omega) f1').1
          rw [← e, f2, hceq] at this
          omega
        · have f1' : mayH (halfAt (rowB c T.length (recB r)) i) := by rw [← e]; exact f1
          obtain ⟨q0, _, _, q4⟩ := row_halves hmt hsh (by rw [hN]; exact hik) f1'
          exact ⟨q0, e, by rw [← f4, e, q4]⟩
      have hM := (hnew 0 j1).2.2
      have hwl : 128 * needN (516 * r.length) ≤ X'.length := by rw [hX', hX]; omega
      have him : RowIm c (0 + T.length) (recB r) (X'.take (128 * needN (516 * r.length))) := by
        refine ⟨by rw [List.length_take, hN]; omega, fun i hi => ?_⟩
        have hmn : manyN (recB r).length ≤ 2 * needN (516 * r.length) := by rw [← hN]; unfold needN; omega
        rw [show 128 * needN (516 * r.length) = 64 * (2 * needN (516 * r.length)) by omega, half_take (by omega), (hnew i (by omega)).2.1, Nat.zero_add]
        exact (row_im c T.length (recB r)).2 i hi
      have hatT : atT (T ++ [(c, r)]) = atT T + needN (516 * r.length) := by simp [atT, atS]
      have hd : ∀ i, halfAt (X'.drop (128 * needN (516 * r.length))) i = halfAt X' (2 * needN (516 * r.length) + i) := fun i => by
        rw [show 128 * needN (516 * r.length) = 64 * (2 * needN (516 * r.length)) by omega, half_drop]
      refine ⟨hlen, h.s1, h.sc, fun x hx => ?_, hlow, P ++ X'.take (128 * needN (516 * r.length)), X'.drop (128 * needN (516 * r.length)), by rw [List.append_assoc, List.take_append_drop], tellP_snoc hP him, by rw [hatT]; exact hfit, fun i hi hmi => ?_, fun hj2 hs2 hk2 => ?_⟩
      · rcases List.mem_append.1 hx with hx | hx
        · exact h.ok x hx
        · rw [List.mem_singleton.1 hx]; exact ⟨h.sc, Nat.le_refl _, hr, hm⟩
      · rw [hatT] at hi
        rw [hd] at hmi ⊢
        have := hall (2 * needN (516 * r.length) + i) (by omega) hmi
        rw [List.length_append, List.length_singleton]
        exact ⟨by omega, fun hss => Nat.le_succ_of_le (this.2 hss)⟩
      · exfalso
        obtain ⟨m1, _, m3, m4⟩ := join_halves hj2
        obtain ⟨p1, _⟩ := good_facts (m4 0 m1)
        rw [hatT] at m3
        rw [hd] at p1 hs2 hk2
        have := (hall (2 * needN (516 * r.length) + 0) (by omega) p1).2 hs2
        rw [hk2, List.length_append, List.length_singleton] at this
        omega
  · left
    refine ⟨hlen, h.s1, h.sc, h.ok, hlow, P, X', rfl, hP, hat, fun i hi hmi => ?_, fun hj hs hk => ?_⟩
    · have := hall i hi hmi
      exact ⟨by omega, this.2⟩
    · cases ho : ofR (joinB X') with
      | none => rfl
      | some v => exact absurd ⟨hj, hs, hk, by rw [ho]; exact fun e => nomatch e⟩ hacc
/-- A record committed. -/
theorem inv_done (h : Inv n c c s T (P ++ X)) (hP : tellP 0 T P) (hX : X.length = 128 * (n - atT T))
    (h3 : ∀ i, i < 2 * (n - atT T) → mayH (halfAt X i) → hCount (halfAt X i) < c ∧ (s ≤ hCount (halfAt X i) → hNum (halfAt X i) ≤ T.length))
    (hc : c ≤ 4611686018427387904) (hn : n ≤ 4000) (hr : chsOk r) (hm : mayR r = true) (hfit : atT T + needN (516 * r.length) ≤ n) :
    Inv n c c s (T ++ [(c, r)]) (P ++ (rowB c T.length (recB r) ++ X.drop (128 * needN (516 * r.length)))) := by
  have hTl := atT_len h.ok
  have hPl := tellP_len h.ok hP
  have hmt := may_of (k := T.length) h.s1 h.sc (Nat.le_refl c) hc (by omega)
  have hrb := recB_len hr
  have hsh := rec_short hr hm
  have hN : needN (recB r).length = needN (516 * r.length) := by rw [hrb]
  have hRl := rowB_len c T.length (recB r)
  have hatT : atT (T ++ [(c, r)]) = atT T + needN (516 * r.length) := by simp [atT, atS]
  have hd : ∀ i, halfAt (X.drop (128 * needN (516 * r.length))) i = halfAt X (2 * needN (516 * r.length) + i) := fun i => by
    rw [show 128 * needN (516 * r.length) = 64 * (2 * needN (516 * r.length)) by omega, half_drop]
  have him : RowIm c (0 + T.length) (recB r) (rowB c T.length (recB r)) := by rw [Nat.zero_add]; exact row_im ..
  refine ⟨by rw [List.length_append, List.length_append, List.length_drop, hRl, hPl, hX, hN]; omega, h.s1, h.sc, fun x hx => ?_, fun i hi hmi => ?_, P ++ rowB c T.length (recB r), X.drop (128 * needN (516 * r.length)), by rw [List.append_assoc], tellP_snoc hP him, by rw [hatT]; exact hfit, fun i hi hmi => ?_, fun hj2 hs2 hk2 => ?_⟩
  · rcases List.mem_append.1 hx with hx | hx
    · exact h.ok x hx
    · rw [List.mem_singleton.1 hx]; exact ⟨h.sc, Nat.le_refl _, hr, hm⟩
  · by_cases hip : i < 2 * atT T
    · have e1 : halfAt (P ++ (rowB c T.length (recB r) ++ X.drop (128 * needN (516 * r.length)))) i = halfAt P i := half_app (by omega)
      have e2 : halfAt (P ++ X) i = halfAt P i := half_app (by omega)
      rw [e1, ← e2] at hmi ⊢
      exact h.low i hi hmi
    · obtain ⟨j, rfl⟩ : ∃ j, i = 2 * atT T + j := ⟨i - 2 * atT T, by omega⟩
      rw [half_app2 (by omega)] at hmi ⊢
      by_cases hj : j < 2 * needN (516 * r.length)
      · rw [half_app (by rw [hRl, hN]; omega)] at hmi ⊢
        obtain ⟨_, q1, _⟩ := row_halves hmt hsh (by rw [hN]; exact hj) hmi
        omega
      · obtain ⟨l, rfl⟩ : ∃ l, j = 2 * needN (516 * r.length) + l := ⟨j - 2 * needN (516 * r.length), by omega⟩
        rw [half_app2 (by rw [hRl, hN]; omega), hd] at hmi ⊢
        have := (h3 (2 * needN (516 * r.length) + l) (by omega) hmi).1
        omega
  · rw [hatT] at hi
    rw [hd] at hmi ⊢
    have := h3 (2 * needN (516 * r.length) + i) (by omega) hmi
    rw [List.length_append, List.length_singleton]
    exact ⟨this.1, fun hss => Nat.le_succ_of_le (this.2 hss)⟩
  · exfalso
    obtain ⟨m1, _, m3, m4⟩ := join_halves hj2
    obtain ⟨p1, _⟩ := good_facts (m4 0 m1)
    rw [hatT] at m3
    rw [hd] at p1 hs2 hk2
    have := (h3 (2 * needN (516 * r.length) + 0) (by omega) p1).2 hs2
    rw [hk2, List.length_append, List.length_singleton] at this
    omega
end
/-- An empty log. -/
theorem inv_zero (n : Nat) : Inv n 1 2 1 [] (zerosB (128 * n)) := by
  have hz : ∀ i, ¬ mayH (halfAt (zerosB (128 * n)) i) := fun i => zero_not _ (by rw [hCount, halfAt, zeros_drop, zeros_take, zeros_take, numB_zeros])
  exact ⟨by simp [zerosB], Nat.le_refl _, Nat.le_refl _, fun x hx => (nomatch hx), fun i _ hm => absurd hm (hz i), [], zerosB (128 * n), rfl, rfl, Nat.zero_le _, fun i _ hm => absurd hm (hz i), fun hj _ _ => by
    rw [join_zeros] at hj; cases hj⟩
end Go.Proofs.YtkkgahgpemepeaaGreat

/- The law WalFormats: behind Format there is nothing. -/
namespace Go.Proofs.YtkkgahgpemepeaaGreat
open Go Go.RowKit Coup Go.ChangeShapes Go.WideShapes Go.Deep

def fitZ (all n : Int) : Bool := decide (4 ≤ n ∧ n ≤ 4000 ∧ n < all)
set_option maxRecDepth 20000 in
theorem rfitsNeg (all n : Int) (w : World) (h0 : all < 0) : Calls Tryz.prog 10 [.int .i64 all, .int .i64 n].toArray w (Ret fun v w' => v = .bool false ∧ w = w') := by
  refine calls_W (fn := Tryz.f10) (rs := [.tmp 4]) (n := 16) Tryz.func10 rfl rfl Tryz.ntmps10 (by kernel_rfl) rfl ?_
  refine W_seq ?_
  refine W_region ?_
  refine WR_val rfl (rn_assign) ?_
  refine WR_nil ?_
  refine thenN ?_
  refine W_seq ?_
  refine W_region ?_
  refine WR_val rfl (rn_move) ?_
  refine WR_val rfl (rn_geq rfl rfl) ?_
  refine WR_val rfl (rn_move) ?_
  refine WR_part 7 rfl (fun h1 => ?_) (fun h1 => ?_)
  ·
    refine WR_yes rfl ?_
    refine WR_val rfl (rn_move) ?_
    refine WR_yes rfl ?_
    refine WR_val rfl (rn_leq rfl rfl) ?_
    refine WR_val rfl (rn_pick_t rfl) ?_
    refine WR_val rfl (rn_move) ?_
    refine WR_part 11 rfl (fun h2 => ?_) (fun h2 => ?_)
    ·
      refine WR_yes rfl ?_
      refine WR_val rfl (rn_move) ?_
      refine WR_yes rfl ?_
      refine WR_val rfl (rn_move) ?_
      refine WR_yes rfl ?_
      refine WR_val rfl (rn_gtr rfl rfl) ?_
      refine WR_val rfl (rn_pick_t rfl) ?_
      refine WR_val rfl (rn_assign) ?_
      refine WR_nil ?_
      refine thenN ?_
      refine W_ret ?_
      refine ret_ret [_] ⟨rfl, trivial⟩ ?_
      exact ⟨by show Value.bool (decide (n < all)) = _; rw [decide_eq_false (by omega)], rfl⟩
    ·
      refine WR_no rfl rfl ?_
      refine WR_no rfl rfl ?_
      refine WR_no rfl rfl ?_
      refine WR_val rfl (rn_pick_f rfl) ?_
      refine WR_val rfl (rn_assign) ?_
      refine WR_nil ?_
      refine thenN ?_
      refine W_ret ?_
      refine ret_ret [_] ⟨rfl, trivial⟩ ?_
      exact ⟨rfl, rfl⟩
  ·
    refine WR_no rfl rfl ?_
    refine WR_no rfl rfl ?_
    refine WR_val rfl (rn_pick_f rfl) ?_
    refine WR_val rfl (rn_move) ?_
    refine WR_no rfl rfl ?_
    refine WR_no rfl rfl ?_
    refine WR_no rfl rfl ?_
    refine WR_val rfl (rn_pick_f rfl) ?_
    refine WR_val rfl (rn_assign) ?_
    refine WR_nil ?_
    refine thenN ?_
    refine W_ret ?_
    refine ret_ret [_] ⟨rfl, trivial⟩ ?_
    exact ⟨rfl, rfl⟩
theorem rfitsZ (all n : Int) (w : World) (ha : wf64 all) (hn : wf64 n) : Calls Tryz.prog 10 [.int .i64 all, .int .i64 n].toArray w (Ret fun v w' => v = .bool (fitZ all n) ∧ w = w') := by
  by_cases h0 : 0 ≤ all
  · refine (rfits29 all n w h0).to fun v w' ⟨h1, h2⟩ => ⟨?_, h2⟩
    rw [h1]
    congr 1
    unfold fitsN fitZ
    exact decide_eq_decide.2 ⟨fun h => ⟨h.1, h.2.1, by omega⟩, fun h => ⟨h.1, h.2.1, by omega⟩⟩
  · have hz : fitZ all n = false := decide_eq_false (by omega)
    rw [hz]
    exact rfitsNeg all n w (by omega)
/-- A disk on which nothing is open is by a loss of power what it was. -/
theorem crash_read {D : Dk} {i : Nat} (picks : List Int) (hb : openB D i = false) : readD (crashD D picks) i = readD D i := by
  have e : ver (crashD D picks) i = ver (setAll D (setXs D fun k i => leftS (ver D i) (picks.getD k 0))) i := rfl
  rw [readD, readD, e, ver_unsettled hb]
theorem fmt_shut {D : Dk} {k : Nat} (h : Alive D k) (n i : Nat) : openB (fmtD D n) i = false := by
  obtain ⟨h1, h2⟩ := zeros_alive h (1 + n)
  obtain ⟨_, h5⟩ := flush_alive h1
  obtain ⟨h6, _⟩ := h5.writeA 0 (headB 1 1)
  rw [fmtD]
  exact flush_shut (flush_alive h6).1 i
theorem secD_fmt {D D4 : Dk} {n m : Nat} (hm : 1 + n ≤ m) (h : ∀ j, j < m → readD D4 j = if j = 0 then headB 1 1 else if j < 1 + n then zeroS else readD D j) :
    (List.replicate (n + 1) zeroS ++ (secD D m).drop (n + 1)).set 0 (headB 1 1) = secD D4 m := by
  have hl := secD_len D m
  refine List.ext_getElem? fun j => ?_
  rw [List.getElem?_set]
  by_cases hj : j < m
  · rw [secD_get D4 hj, h j hj]
    by_cases h0 : 0 = j
    · subst h0
      rw [if_pos rfl, if_pos rfl, if_pos (by rw [List.length_append, List.length_replicate]; omega)]
    · rw [if_neg h0, if_neg fun e => h0 e.symm]
      by_cases h1 : j < 1 + n
      · rw [if_pos h1, List.getElem?_append_left (by rw [List.length_replicate]; omega), List.getElem?_replicate, if_pos (by omega)]
      · rw [if_neg h1, List.getElem?_append_right (by rw [List.length_replicate]; omega), List.length_replicate, List.getElem?_drop, show n + 1 + (j - (n + 1)) = j by omega, secD_get D hj]
  · rw [if_neg (by omega), List.getElem?_eq_none (by rw [List.length_append, List.length_replicate, List.length_drop]; omega), List.getElem?_eq_none (by rw [secD_len]; omega)]
theorem zs_set (L : List Sec) {i : Nat} (hi : i < L.length) : (List.replicate i zeroS ++ L.drop i).set i zeroS = List.replicate (i + 1) zeroS ++ L.drop (i + 1) := by
  obtain ⟨a, ha⟩ : ∃ a, L.drop i = a :: L.drop (i + 1) := ⟨L[i], List.drop_eq_getElem_cons hi⟩
  rw [ha, List.set_append_right _ _ (by rw [List.length_replicate]; exact Nat.le_refl _), List.length_replicate, Nat.sub_self, List.set_cons_zero, List.replicate_succ', List.append_assoc]; rfl
theorem zs_ok {L : List Sec} (h : secsOk L) (i : Nat) : secsOk (List.replicate i zeroS ++ L.drop i) := fun s hs => by
  rcases List.mem_append.1 hs with h1 | h1
  · rw [(List.mem_replicate.1 h1).2, zeroS, List.length_replicate]
  · exact h s (List.mem_of_mem_drop h1)
theorem zs_len {L : List Sec} {i : Nat} (hi : i ≤ L.length) : (List.replicate i zeroS ++ L.drop i).length = L.length := by rw [List.length_append, List.length_replicate, List.length_drop]; omega
section
variable {Y : World → List Nat → Prop} [Thing Y] {g lo : Nat} {L : List Nat} {D : Dk} {w : World}
/-- An empty log on a disk alive is opened. -/
theorem openFresh (h : Two (DZ g D) Y lo L w) (n : Nat) {k : Nat} (ha : Alive D k) (hk : k ≤ 80000) (hf : fitsN D.V.length n = true) (h0 : readD D 0 = headB 1 1) (hz : ∀ j, j < n → readD D (1 + j) = zeroS) :
    Calls Tryz.prog 7 [.pointer (some ⟨g, 0, none⟩), .int .i64 (n : Int)].toArray w (Ret fun v w' => (∃ x p c, v = .tuple #[.pointer (some ⟨x, 0, none⟩), .slice p 0 c, .int .i64 0]) ∧ LoL lo L w w') := by
  obtain ⟨e1, e2, e3⟩ := open_head (D := D) (c := 1) (s := 1) (n := n) hf h0 (by omega) (by omega) (by omega)
  refine (openYes h n e1 (short_of ha.short (by omega))).to ?_
  rintro v w' ⟨ok, D2, C, s, S, hok, hD2, hC, hs, hS, hLL, hh⟩
  rw [(save_alive ha (C + 1) s).1] at hok
  subst hok
  have hR : recsOf D (headG D n) = [] := by
    rw [recsOf, show (headG D n).size = n from Int.toNat_natCast n, secL_zeros hz, recs_zeros]
  rw [hR] at hS
  subst hS
  rcases hh with ⟨h, _⟩ | ⟨_, x, p, c, e, _⟩
  · cases h
  · exact ⟨⟨x, p, c, e⟩, hLL⟩
end
end Go.Proofs.YtkkgahgpemepeaaGreat

/- Logs on disks that may die: what writes leave, what a loss of power makes of them. -/
namespace Go.Proofs.YtkkgahgpemepeaaGreat
open Go Go.RowKit Coup

theorem step_yes {D : Dk} (h : stepOk D = true) : D.dead = false ∧ (stepD D).dead = false := by
  have hd : D.dead = false := by
    cases hx : D.dead with
    | false => rfl
    | true => rw [(stepD_dead hx).1] at h; cases h
  exact ⟨hd, by rw [stepD, if_pos h]; exact hd⟩
theorem step_no {D : Dk} (h : stepOk D = false) : (stepD D).dead = true := by rw [stepD, h]; rfl
theorem ver_V {D D' : Dk} (h : D'.V = D.V) (j : Nat) : ver D' j = ver D j := by rw [ver, ver, h]
theorem write_yes {D : Dk} (h : stepOk D = true) {i : Nat} (hi : i < D.V.length) (s : Sec) : (writeA D (i : Int) s).dead = false ∧ ∀ j, ver (writeA D (i : Int) s) j = if i = j then ver D j ++ [s] else ver D j := by
  have hin : inD D (i : Int) = true := decide_eq_true ⟨by omega, by omega⟩
  rw [writeA, hin, if_pos rfl, Int.toNat_natCast, writeD, if_pos h]
  refine ⟨(step_yes h).2, fun j => ?_⟩
  rw [ver_set (by rw [stepD_V]; exact hi), ver_V (stepD_V D)]
  by_cases e : i = j
  · subst e; rw [if_pos rfl]
  · rw [if_neg e, if_neg e]
theorem write_no {D : Dk} (h : stepOk D = false) {i : Nat} (hi : i < D.V.length) (s : Sec) : (writeA D (i : Int) s).dead = true ∧ ∀ j, ver (writeA D (i : Int) s) j = ver D j := by
  have hin : inD D (i : Int) = true := decide_eq_true ⟨by omega, by omega⟩
  rw [writeA, hin, if_pos rfl, Int.toNat_natCast, writeD, h]
  exact ⟨step_no h, fun j => ver_V (stepD_V D) j⟩
theorem writes_cases : ∀ (R : List Sec) (D : Dk) (a : Nat), D.dead = false → a + R.length ≤ D.V.length →
    ((writesW D a R).2 = true ∧ (writesW D a R).1.dead = false ∧ ∀ j, ver (writesW D a R).1 j = if a ≤ j ∧ j < a + R.length then ver D j ++ [R.getD (j - a) zeroS] else ver D j) ∨
    ((writesW D a R).2 = false ∧ (writesW D a R).1.dead = true ∧ ∀ j, ver (writesW D a R).1 j = ver D j ∨ (a ≤ j ∧ j < a + R.length ∧ ver (writesW D a R).1 j = ver D j ++ [R.getD (j - a) zeroS]))
  | [], D, a, hd, _ => .inl ⟨rfl, hd, fun j => by rw [if_neg (by rw [List.length_nil]; omega)]; rfl⟩
  | t :: R, D, a, hd, hl => by
    rw [List.length_cons] at hl
    rw [writesW]
    cases hs : stepOk D with
    | false =>
      obtain ⟨h1, h2⟩ := write_no hs (i := a) (by omega) t
      rw [if_neg (by simp)]
      exact .inr ⟨rfl, h1, fun j => .inl (h2 j)⟩
    | true =>
      obtain ⟨h1, h2⟩ := write_yes hs (i := a) (by omega) t
      rw [if_pos rfl]
      have hlen : (writeA D (a : Int) t).V.length = D.V.length := writeA_len _ _ _
      rcases writes_cases R (writeA D (a : Int) t) (a + 1) h1 (by rw [hlen]; omega) with ⟨e1, e2, e3⟩ | ⟨e1, e2, e3⟩
      · refine .inl ⟨e1, e2, fun j => ?_⟩
        rw [e3 j, h2 j, List.length_cons]
        by_cases c1 : a + 1 ≤ j ∧ j < a + 1 + R.length
        · rw [if_pos c1, if_neg (by omega : ¬ a = j), if_pos (by omega : a ≤ j ∧ j < a + (R.length + 1)), show j - a = (j - (a + 1)) + 1 by omega, List.getD_cons_succ]
        · rw [if_neg c1]
          by_cases c2 : a = j
          · rw [if_pos c2, if_pos (by omega), show j - a = 0 by omega, List.getD_cons_zero]
          · rw [if_neg c2, if_neg (by omega)]
      · refine .inr ⟨e1, e2, fun j => ?_⟩
        rw [List.length_cons]
        rcases e3 j with h3 | ⟨k1, k2, k3⟩
        · rw [h3, h2 j]
          by_cases c2 : a = j
          · rw [if_pos c2]
            exact .inr ⟨by omega, by omega, by rw [show j - a = 0 by omega, List.getD_cons_zero]⟩
          · rw [if_neg c2]; exact .inl rfl
        · rw [k3, h2 j, if_neg (by omega)]
          exact .inr ⟨by omega, by omega, by rw [show j - a = (j - (a + 1)) + 1 by omega, List.getD_cons_succ]⟩
theorem flush_yes {D : Dk} (h : stepOk D = true) : (flushD D).dead = false ∧ shortD (flushD D) 1 ∧ ∀ j, j < D.V.length → readD (flushD D) j = readD D j := by
  refine ⟨?_, ?_, fun j hj => readF h hj⟩
  · rw [flushD, if_pos h]; exact (step_yes h).2
  · rw [flushD, if_pos h]
    intro v hv
    obtain ⟨u, _, rfl⟩ := List.mem_map.1 hv
    simp
theorem flush_no {D : Dk} (h : stepOk D = false) : (flushD D).dead = true ∧ ∀ j, ver (flushD D) j = ver D j := by
  rw [flushD, h]
  exact ⟨step_no h, fun j => ver_V (stepD_V D) j⟩
theorem put_cases (R : List Sec) {D : Dk} (a : Nat) (hd : D.dead = false) (hsh : shortD D 1) (hl : a + R.length ≤ D.V.length) :
    ((putW D a R).2 = true ∧ (putW D a R).1.dead = false ∧ shortD (putW D a R).1 1 ∧ ∀ j, j < D.V.length → readD (putW D a R).1 j = if a ≤ j ∧ j < a + R.length then R.getD (j - a) zeroS else readD D j) ∨
    ((putW D a R).2 = false ∧ (putW D a R).1.dead = true ∧ ∀ j, ver (putW D a R).1 j = ver D j ∨ (a ≤ j ∧ j < a + R.length ∧ ver (putW D a R).1 j = ver D j ++ [R.getD (j - a) zeroS])) := by
  rcases writes_cases R D a hd hl with ⟨e1, e2, e3⟩ | ⟨e1, e2, e3⟩
  · rw [putW, if_pos e1]
    cases hs : stepOk (writesW D a R).1 with
    | true =>
      obtain ⟨f1, f2, f3⟩ := flush_yes hs
      refine .inl ⟨rfl, f1, f2, fun j hj => ?_⟩
      rw [f3 j (by rw [writesW_len]; exact hj), readD, e3 j]
      by_cases c : a ≤ j ∧ j < a + R.length
      · rw [if_pos c, if_pos c]; simp [lastS]
      · rw [if_neg c, if_neg c]; rfl
    | false =>
      obtain ⟨f1, f2⟩ := flush_no hs
      refine .inr ⟨rfl, f1, fun j => ?_⟩
      rw [f2 j, e3 j]
      by_cases c : a ≤ j ∧ j < a + R.length
      · rw [if_pos c]; exact .inr ⟨c.1, c.2, rfl⟩
      · rw [if_neg c]; exact .inl rfl
  · rw [putW, if_neg (by rw [e1]; simp)]
    exact .inr ⟨e1, e2, e3⟩
theorem put_len (D : Dk) (a : Nat) (R : List Sec) : (putW D a R).1.V.length = D.V.length := by
  unfold putW
  split
  · rw [flush_len, writesW_len]
  · rw [writesW_len]
theorem save_put (D : Dk) (c s : Nat) : saveD D c s = (putW D 0 [headB c s]).1 ∧ saveE D c s = (putW D 0 [headB c s]).2 := by
  cases hs : stepOk D with
  | true =>
    have : writesW D 0 [headB c s] = (writeA D 0 (headB c s), true) := by rw [writesW, if_pos hs]; rfl
    rw [putW, this, if_pos rfl, saveD, saveE, hs, if_pos rfl]
    exact ⟨rfl, Bool.true_and _⟩
  | false =>
    have : writesW D 0 [headB c s] = (writeA D 0 (headB c s), false) := by rw [writesW, hs]; rfl
    rw [putW, this, saveD, saveE, hs]
    exact ⟨rfl, rfl⟩
theorem ver_one {D : Dk} (hok : DkOk D) (hsh : shortD D 1) {j : Nat} (hj : j < D.V.length) : ver D j = [readD D j] := by
  obtain ⟨h1, _, _⟩ := ver_ok hok hj
  have h2 := hsh.ver hj
  have h3 := List.length_pos_iff.2 h1
  obtain ⟨a, ha⟩ := List.length_eq_one_iff.1 (show (ver D j).length = 1 by omega)
  rw [readD, ha]; rfl
theorem sec_halves {s : Sec} (h : s.length = 128) : s = fstH s ++ sndH s := by
  unfold fstH sndH
  rw [List.drop_zero, List.take_of_length_le (l := s.drop 64) (by rw [List.length_drop]; omega), List.take_append_drop]
/-- What is left of a disk whose sectors were written at most once since they were flushed. -/
theorem crash_two {D D2 : Dk} (hok : DkOk D) (hsh : shortD D 1) (hok2 : DkOk D2) (hlen : D2.V.length = D.V.length) (p : List Int) {j : Nat} (hj : j < D.V.length) {t : Sec} {q : Prop} (hv : ver D2 j = ver D j ∨ (q ∧ ver D2 j = ver D j ++ [t])) :
    (readD (crashD D2 p) j).length = 128 ∧ (fstH (readD (crashD D2 p) j) = fstH (readD D j) ∨ (q ∧ fstH (readD (crashD D2 p) j) = fstH t)) ∧ (sndH (readD (crashD D2 p) j) = sndH (readD D j) ∨ (q ∧ sndH (readD (crashD D2 p) j) = sndH t)) := by
  obtain ⟨s, h1, h2, a, ha, b, hb, h3, h4⟩ := crash_ver hok2 p (i := j) (by rw [hlen]; exact hj)
  have hr : readD (crashD D2 p) j = s := by rw [readD, h1]; rfl
  rw [hr]
  have hone := ver_one hok hsh hj
  refine ⟨h2, ?_, ?_⟩
  · rw [h3]
    rcases hv with e | ⟨hq, e⟩
    · rw [e, hone, List.mem_singleton] at ha; rw [ha]; exact .inl rfl
    · rw [e, hone] at ha
      rcases List.mem_append.1 ha with ha | ha
      · rw [List.mem_singleton.1 ha]; exact .inl rfl
      · rw [List.mem_singleton.1 ha]; exact .inr ⟨hq, rfl⟩
  · rw [h4]
    rcases hv with e | ⟨hq, e⟩
    · rw [e, hone, List.mem_singleton] at hb; rw [hb]; exact .inl rfl
    · rw [e, hone] at hb
      rcases List.mem_append.1 hb with hb | hb
      · rw [List.mem_singleton.1 hb]; exact .inl rfl
      · rw [List.mem_singleton.1 hb]; exact .inr ⟨hq, rfl⟩
theorem crash_short1 {D : Dk} (hok : DkOk D) (p : List Int) : shortD (crashD D p) 1 := fun v hv => by
  obtain ⟨j, hj⟩ := List.mem_iff_getElem?.1 hv
  have hjl := (List.getElem?_eq_some_iff.1 hj).1
  rw [crash_len] at hjl
  obtain ⟨s, h1, _⟩ := crash_ver hok p hjl
  have : v = ver (crashD D p) j := by
    rw [ver, List.getD_eq_getElem?_getD, hj]; rfl
  rw [this, h1]; exact Nat.le_refl _
/-! ### Halves of the log's sectors -/
theorem logB_len {D : Dk} (h : DkOk D) {n : Nat} (hn : 1 + n ≤ D.V.length) : (logB D n).length = 128 * n := by rw [logB_eq, flat_len (secL_ok h hn), secL_len, Nat.mul_comm]
theorem flat_half {L : List Sec} (h : secsOk L) {j : Nat} {s : Sec} (hs : L[j]? = some s) : halfAt L.flatten (2 * j) = fstH s ∧ halfAt L.flatten (2 * j + 1) = sndH s := by
  have hf := flat_at h hs
  have e1 : halfAt L.flatten (2 * j) = ((L.flatten.drop (j * 128)).take 128).take 64 := by rw [halfAt, List.take_take, Nat.min_eq_left (by omega), show 64 * (2 * j) = j * 128 by omega]
  have e2 : halfAt L.flatten (2 * j + 1) = ((L.flatten.drop (j * 128)).take 128).drop 64 := by rw [halfAt, List.drop_take, List.drop_drop, show 64 * (2 * j + 1) = j * 128 + 64 by omega]
  have hl := h s (List.mem_of_getElem? hs)
  rw [e1, e2, hf]
  unfold fstH sndH
  exact ⟨by rw [List.drop_zero], by rw [List.take_of_length_le (l := s.drop 64) (by rw [List.length_drop]; omega)]⟩
theorem log_half {D : Dk} (h : DkOk D) {n j : Nat} (hn : 1 + n ≤ D.V.length) (hj : j < n) : halfAt (logB D n) (2 * j) = fstH (readD D (1 + j)) ∧ halfAt (logB D n) (2 * j + 1) = sndH (readD D (1 + j)) :=
  flat_half (secL_ok h hn) (secL_get D hj)
theorem logB_cong {D D' : Dk} {n : Nat} (h : ∀ j, j < n → readD D' (1 + j) = readD D (1 + j)) : logB D' n = logB D n := by
  unfold logB
  congr 1
  exact List.map_congr_left fun i hi => h i (List.mem_range.1 hi)
/-- A settled disk with a log on it. -/
structure LogOn (D : Dk) (n c cx s : Nat) (T : List (Nat × Rec)) : Prop where
  ok : DkOk D
  len : 1 + n ≤ D.V.length
  short : shortD D 1
  head : readD D 0 = headB c s
  inv : Inv n c cx s T (logB D n)
theorem head_len (c s : Nat) : (headB c s).length = 128 := headB_len c s
theorem head_snd (c s : Nat) : sndH (headB c s) = zerosB 64 := by
  have hl : (magic ++ (beB 8 c ++ beB 8 s)).length = 20 := by simp [magic, beB_length]
  have he : headB c s = (magic ++ (beB 8 c ++ beB 8 s)) ++ zerosB 108 := by simp [headB, List.append_assoc]
  rw [sndH, he, List.drop_append, List.drop_of_length_le (l := magic ++ (beB 8 c ++ beB 8 s)) (by omega), List.nil_append, hl, zeros_drop, zeros_take]; rfl
namespace LogOn
variable {D D' : Dk} {n c cx s : Nat} {T : List (Nat × Rec)}
/-- The same is read: the same log. -/
theorem same (h : LogOn D n c cx s T) (hok : DkOk D') (hlen : D'.V.length = D.V.length) (hsh : shortD D' 1) (hr : ∀ j, j < D.V.length → readD D' j = readD D j) : LogOn D' n c cx s T := by
  have hl := h.len
  exact ⟨hok, by rw [hlen]; exact hl, hsh, (hr 0 (by omega)).trans h.head, by rw [logB_cong fun j hj => hr (1 + j) (by omega)]; exact h.inv⟩
theorem crash (h : LogOn D n c cx s T) (p : List Int) (hok : DkOk (crashD D p)) : LogOn (crashD D p) n c cx s T :=
  h.same hok (crash_len D p) (crash_short1 h.ok p) fun j hj => crash_read p (by
    unfold openB
    have := h.short.ver hj
    exact decide_eq_false (by omega))
/-- Another head. -/
theorem rehead {c' cx' s' : Nat} {T' : List (Nat × Rec)} (h : LogOn D n c cx s T) (hok : DkOk D') (hlen : D'.V.length = D.V.length) (hsh : shortD D' 1) (h0 : readD D' 0 = headB c' s') (hr : ∀ j, j < D.V.length → j ≠ 0 → readD D' j = readD D j)
    (hi : Inv n c cx s T (logB D n) → Inv n c' cx' s' T' (logB D n)) : LogOn D' n c' cx' s' T' := by
  have hl := h.len
  exact ⟨hok, by rw [hlen]; exact hl, hsh, h0, by rw [logB_cong fun j hj => hr (1 + j) (by omega) (by omega)]; exact hi h.inv⟩
/-- A head saved, or half saved. -/
theorem save {c' cx' s' : Nat} {T' : List (Nat × Rec)} (h : LogOn D n c cx s T) (hd : D.dead = false) (hok : DkOk (saveD D c' s')) (hok2 : ∀ p, DkOk (crashD (saveD D c' s') p)) (hi : Inv n c cx s T (logB D n) → Inv n c' cx' s' T' (logB D n)) :
    (saveE D c' s' = true ∧ (saveD D c' s').dead = false ∧ LogOn (saveD D c' s') n c' cx' s' T') ∨
    (saveE D c' s' = false ∧ (saveD D c' s').dead = true ∧ ∀ p, LogOn (crashD (saveD D c' s') p) n c cx s T ∨ LogOn (crashD (saveD D c' s') p) n c' cx' s' T') := by
  have hl := h.len
  obtain ⟨e1, e2⟩ := save_put D c' s'
  have hlen : (saveD D c' s').V.length = D.V.length := by rw [e1, put_len]
  rcases put_cases [headB c' s'] 0 hd h.short (by simp; omega) with ⟨f1, f2, f3, f4⟩ | ⟨f1, f2, f3⟩
  · left
    rw [← e1] at f2 f3 f4
    rw [← e2] at f1
    refine ⟨f1, f2, h.rehead hok hlen f3 ?_ (fun j hj h0 => ?_) hi⟩
    · rw [f4 0 (by omega), if_pos (by simp)]; rfl
    · rw [f4 j hj, if_neg (by simp; omega)]
  · right
    rw [← e1] at f2 f3
    rw [← e2] at f1
    refine ⟨f1, f2, fun p => ?_⟩
    have hj : ∀ j, j < D.V.length → j ≠ 0 → readD (crashD (saveD D c' s') p) j = readD D j := fun j hj h0 => by
      obtain ⟨g1, g2, g3⟩ := crash_two (q := False) (t := zeroS) h.ok h.short hok hlen p hj (by
        rcases f3 j with e | ⟨_, k2, _⟩
        · exact .inl e
        · simp at k2; omega)
      rw [sec_halves g1, sec_halves (readD_len h.ok hj)]
      rcases g2 with g2 | ⟨g2, _⟩
      · rcases g3 with g3 | ⟨g3, _⟩
        · rw [g2, g3]
        · exact g3.elim
      · exact g2.elim
    obtain ⟨g1, g2, g3⟩ := crash_two (q := True) (t := headB c' s') h.ok h.short hok hlen p (j := 0) (by omega) (by
      rcases f3 0 with e | ⟨_, _, k3⟩
      · exact .inl e
      · exact .inr ⟨trivial, k3⟩)
    rw [h.head, head_snd, head_snd] at g3
    rw [h.head] at g2
    have g3' : sndH (readD (crashD (saveD D c' s') p) 0) = zerosB 64 := g3.elim id fun x => x.2
    have hlc : (crashD (saveD D c' s') p).V.length = D.V.length := by rw [crash_len]; exact hlen
    rcases g2 with g2 | ⟨_, g2⟩
    · left
      refine h.same (hok2 p) hlc (crash_short1 hok p) fun j hjl => ?_
      by_cases h0 : j = 0
      · rw [h0, h.head, sec_halves g1, sec_halves (head_len c s), g2, g3', head_snd]
      · exact hj j hjl h0
    · right
      exact h.rehead (hok2 p) hlc (crash_short1 hok p) (by rw [sec_halves g1, sec_halves (head_len c' s'), g2, g3', head_snd]) hj hi
end LogOn
end Go.Proofs.YtkkgahgpemepeaaGreat

/- A record written on a disk that may die. -/
namespace Go.Proofs.YtkkgahgpemepeaaGreat
open Go Go.RowKit Coup

theorem LogOn.put {D : Dk} {n c s : Nat} {T : List (Nat × Rec)} {G : Lg} {r : Rec} (h : LogOn D n c c s T) (hd : D.dead = false) (hG : G.count = c ∧ G.num = T.length ∧ G.at_ = atT T) (hc : c ≤ 4611686018427387904) (hn : n ≤ 4000) (hr : chsOk r) (hm : mayR r = true)
    (hfit : atT T + needN (516 * r.length) ≤ n) (hok : DkOk (putW D (1 + G.at_) (rowW G r)).1) (hok2 : ∀ p, DkOk (crashD (putW D (1 + G.at_) (rowW G r)).1 p)) :
    ((putW D (1 + G.at_) (rowW G r)).2 = true ∧ (putW D (1 + G.at_) (rowW G r)).1.dead = false ∧ LogOn (putW D (1 + G.at_) (rowW G r)).1 n c c s (T ++ [(c, r)])) ∨
    ((putW D (1 + G.at_) (rowW G r)).2 = false ∧ (putW D (1 + G.at_) (rowW G r)).1.dead = true ∧ ∀ p, LogOn (crashD (putW D (1 + G.at_) (rowW G r)).1 p) n c (c + 1) s T ∨ LogOn (crashD (putW D (1 + G.at_) (rowW G r)).1 p) n c (c + 1) s (T ++ [(c, r)])) := by
  have hl := h.len
  have hRl := rowW_len G r
  obtain ⟨hRf, hRo⟩ := rowW_flat G hr
  rw [hG.1, hG.2.1] at hRf
  rw [hG.2.2] at hok hok2 ⊢
  generalize rowW G r = R at *
  obtain ⟨P, X, hB, hP, hat, h3, h4⟩ := h.inv.ex
  have hPl := tellP_len h.inv.ok hP
  have hBl := h.inv.len
  have hXl : X.length = 128 * (n - atT T) := by
    rw [hB, List.length_append, hPl] at hBl; omega
  have hi := h.inv
  rw [hB] at hi
  have hlen := put_len D (1 + atT T) R
  rcases put_cases R (1 + atT T) hd h.short (by omega) with ⟨f1, f2, f3, f4⟩ | ⟨f1, f2, f3⟩
  · left
    refine ⟨f1, f2, hok, by rw [hlen]; exact hl, f3, ?_, ?_⟩
    · rw [f4 0 (by omega), if_neg (by omega)]; exact h.head
    · rw [logB_put h.ok hl (by omega) f4 hB hPl, hRf, hRl]
      exact inv_done hi hP hXl h3 hc hn hr hm hfit
  · right
    refine ⟨f1, f2, fun p => ?_⟩
    have hlc : (crashD (putW D (1 + atT T) R).1 p).V.length = D.V.length := by rw [crash_len]; exact hlen
    -- the sectors
    have hsec : ∀ j, j < D.V.length → (readD (crashD (putW D (1 + atT T) R).1 p) j).length = 128 ∧ (fstH (readD (crashD (putW D (1 + atT T) R).1 p) j) = fstH (readD D j) ∨ ((1 + atT T ≤ j ∧ j < 1 + atT T + R.length) ∧ fstH (readD (crashD (putW D (1 + atT T) R).1 p) j) = fstH (R.getD (j - (1 + atT T)) zeroS))) ∧
        (sndH (readD (crashD (putW D (1 + atT T) R).1 p) j) = sndH (readD D j) ∨ ((1 + atT T ≤ j ∧ j < 1 + atT T + R.length) ∧ sndH (readD (crashD (putW D (1 + atT T) R).1 p) j) = sndH (R.getD (j - (1 + atT T)) zeroS))) := fun j hj =>
      crash_two h.ok h.short hok hlen p hj (by
        rcases f3 j with e | ⟨k1, k2, k3⟩
        · exact .inl e
        · exact .inr ⟨⟨k1, k2⟩, k3⟩)
    have hok3 := hok2 p
    have hsh3 := crash_short1 hok p
    generalize crashD (putW D (1 + atT T) R).1 p = D3 at *
    have hl3 : 1 + n ≤ D3.V.length := by rw [hlc]; exact hl
    have hh0 : readD D3 0 = headB c s := by
      obtain ⟨g1, g2, g3⟩ := hsec 0 (by omega)
      have g2' := g2.elim id fun x => absurd x.1 (by omega)
      have g3' := g3.elim id fun x => absurd x.1 (by omega)
      rw [← h.head, sec_halves g1, sec_halves (readD_len h.ok (i := 0) (by omega)), g2', g3']
    have hB3l := logB_len hok3 hl3
    -- halves
    have hhalf : ∀ i, i < 2 * n → halfAt (logB D3 n) i = halfAt (logB D n) i ∨ ((2 * atT T ≤ i ∧ i < 2 * atT T + 2 * R.length) ∧ halfAt (logB D3 n) i = halfAt (rowB c T.length (recB r)) (i - 2 * atT T)) := fun i hi2 => by
      obtain ⟨j, hj | hj⟩ : ∃ j, i = 2 * j ∨ i = 2 * j + 1 := ⟨i / 2, by omega⟩
      · subst hj
        obtain ⟨a1, _⟩ := log_half hok3 hl3 (n := n) (j := j) (by omega)
        obtain ⟨b1, _⟩ := log_half h.ok hl (n := n) (j := j) (by omega)
        obtain ⟨_, g2, _⟩ := hsec (1 + j) (by omega)
        rw [a1, b1]
        rcases g2 with g2 | ⟨k, g2⟩
        · exact .inl g2
        · obtain ⟨q, rfl⟩ : ∃ q, j = atT T + q := ⟨j - atT T, by omega⟩
          refine .inr ⟨by omega, ?_⟩
          rw [g2, show 1 + (atT T + q) - (1 + atT T) = q by omega, show 2 * (atT T + q) - 2 * atT T = 2 * q by omega, ← hRf]
          exact (flat_half hRo (j := q) (s := R.getD q zeroS) (by rw [List.getD_eq_getElem?_getD, List.getElem?_eq_getElem (by omega)]; rfl)).1.symm
      · subst hj
        obtain ⟨_, a1⟩ := log_half hok3 hl3 (n := n) (j := j) (by omega)
        obtain ⟨_, b1⟩ := log_half h.ok hl (n := n) (j := j) (by omega)
        obtain ⟨_, _, g2⟩ := hsec (1 + j) (by omega)
        rw [a1, b1]
        rcases g2 with g2 | ⟨k, g2⟩
        · exact .inl g2
        · obtain ⟨q, rfl⟩ : ∃ q, j = atT T + q := ⟨j - atT T, by omega⟩
          refine .inr ⟨by omega, ?_⟩
          rw [g2, show 1 + (atT T + q) - (1 + atT T) = q by omega, show 2 * (atT T + q) + 1 - 2 * atT T = 2 * q + 1 by omega, ← hRf]
          exact (flat_half hRo (j := q) (s := R.getD q zeroS) (by rw [List.getD_eq_getElem?_getD, List.getElem?_eq_getElem (by omega)]; rfl)).2.symm
    have hPe : (logB D3 n).take (64 * (2 * atT T)) = P := halves_ext (2 * atT T) (by rw [List.length_take, hB3l]; omega) (by omega) fun i hi2 => by
      rw [half_take hi2]
      rcases hhalf i (by omega) with e | ⟨k, _⟩
      · rw [e, hB, half_app (by omega)]
      · omega
    have hX : logB D3 n = P ++ (logB D3 n).drop (64 * (2 * atT T)) := by
      have := List.take_append_drop (64 * (2 * atT T)) (logB D3 n)
      rw [hPe] at this; exact this.symm
    have hmx := inv_mix (X' := (logB D3 n).drop (64 * (2 * atT T))) hi hP hXl hat h3 h4 hc hn hr hm hfit (by rw [List.length_drop, hB3l, hXl]; omega) fun i hi2 => by
      rw [half_drop]
      rcases hhalf (2 * atT T + i) (by omega) with e | ⟨k, e⟩
      · left
        rw [e, hB, half_app2 (by omega)]
      · right
        exact ⟨by omega, by rw [e, show 2 * atT T + i - 2 * atT T = i by omega]⟩
    rw [← hX] at hmx
    exact hmx.elim (fun hv => .inl ⟨hok3, hl3, hsh3, hh0, hv⟩) fun hv => .inr ⟨hok3, hl3, hsh3, hh0, hv⟩
end Go.Proofs.YtkkgahgpemepeaaGreat

/- Steps and lives that came in; are there few. -/
namespace Go.Proofs.YtkkgahgpemepeaaGreat
open Go Go.RowKit Coup Go.ChangeShapes Go.WideShapes Go.Deep

structure StepT where
  kind : Int
  n : Int
  lv : List LeafT
  picks : List Int
def StQ (W : World) (a : StepT) (cs : List Value) : Prop := ∃ q cp q2 cp2, cs = [.int .i64 a.kind, .int .i64 a.n, .slice q a.lv.length cp, .slice q2 a.picks.length cp2] ∧ ElsAt (LfQ W) W 2 q a.lv.length a.lv ∧ SlAt W q2 a.picks.length 1 (iv a.picks) ∧ okI a.picks ∧ wf64 a.kind ∧ wf64 a.n
theorem stQ_opn {H : Type} {enc : TypeId × Value → H} {W : World} {base : Nat} {spare : Nat → Bool} {held : Bool} : Opn enc Tryz.prog W base spare held 58 (StQ W) := fun fuel cs x h => by
  obtain ⟨hl, m, hf⟩ := opn_flds Tryz.underlying58 h
  have hl2 : cs.length = 4 := hl.trans (by kernel_rfl)
  obtain ⟨_, h0⟩ := fld hf 0 0 1 rfl rfl (by kernel_rfl)
  obtain ⟨_, h1⟩ := fld hf 1 1 1 rfl rfl (by kernel_rfl)
  obtain ⟨_, h2⟩ := fld hf 2 2 1 rfl rfl (by kernel_rfl)
  obtain ⟨_, h3⟩ := fld hf 3 3 1 rfl rfl (by kernel_rfl)
  obtain ⟨a, e0, w0⟩ := opn_int (by kernel_rfl) _ _ _ h0
  obtain ⟨b, e1, w1⟩ := opn_int (by kernel_rfl) _ _ _ h1
  obtain ⟨L, q, cp, e2, hcp, hL⟩ := opn_slice (e := 69) (n := 2) (by kernel_rfl) (by kernel_rfl) lfQ_opn _ _ _ h2
  obtain ⟨R, q2, cp2, e3, hcp2, hR⟩ := opn_slice (e := 3) (n := 1) (by kernel_rfl) (by kernel_rfl) (opn_int (k := .i64) (by kernel_rfl)) _ _ _ h3
  obtain ⟨hR1, hR2⟩ := el_ints hR
  refine ⟨⟨a, b, L, R⟩, q, cp, q2, cp2, ?_, hL, hR1, hR2, i64_of_wf w0, i64_of_wf w1⟩
  have k0 := cut_at cs 0 1
  have k1 := cut_at cs 1 1
  have k2 := cut_at cs 2 1
  have k3 := cut_at cs 3 1
  rw [e0] at k0
  rw [e1] at k1
  rw [e2] at k2
  rw [e3, List.drop_of_length_le (l := cs) (i := 3 + 1) (by omega), List.append_nil] at k3
  rw [k3] at k2
  rw [k2] at k1
  rw [k1] at k0
  rw [List.drop_zero] at k0
  exact k0
structure LifeT where
  fuse : Int
  steps : List StepT
  picks : List Int
def LiQ (W : World) (a : LifeT) (cs : List Value) : Prop := ∃ q cp q2 cp2, cs = [.int .i64 a.fuse, .slice q a.steps.length cp, .slice q2 a.picks.length cp2] ∧ ElsAt (StQ W) W 4 q a.steps.length a.steps ∧ SlAt W q2 a.picks.length 1 (iv a.picks) ∧ okI a.picks ∧ wf64 a.fuse
theorem openRowsS {H : Type} {enc : TypeId × Value → H} {W : World} {a : Option Addr} {len cap : Nat} {d : DataW H} {p : List MemPlace} (h : DataW.Trod enc Tryz.prog W 0 (fun _ => true) true 53 (.slice a len cap) d p) : (∃ R, ElsAt (StQ W) W 4 a len R) ∧ len ≤ cap :=
  opn_arg (by kernel_rfl) (by kernel_rfl) stQ_opn h
theorem StQ.below {w w' : World} {a : StepT} {cs : List Value} (h : StQ w a cs) (hb : Below w.heap.size w w') : StQ w' a cs := by
  obtain ⟨q, cp, q2, cp2, h1, h2, h3, h4⟩ := h
  exact ⟨q, cp, q2, cp2, h1, h2.to hb fun _ _ hq => hq.below hb, h3.below hb (Nat.le_refl _), h4⟩
theorem stsBelow {w w' : World} {p : Option Addr} {n : Nat} {R : List StepT} (h : ElsAt (StQ w) w 4 p n R) (hb : Below w.heap.size w w') : ElsAt (StQ w') w' 4 p n R := h.to hb fun _ _ hq => hq.below hb
def fewS (R : List StepT) (most : Nat) : Prop := R.length ≤ most ∧ ∀ a ∈ R, a.lv.length ≤ 62 ∧ a.picks.length ≤ 200
set_option maxRecDepth 20000 in
theorem few34 (p : Option Addr) (n cp most : Nat) (R : List StepT) (w : World) (h : ElsAt (StQ w) w 4 p n R) (hm : most ≤ 1000) :
    Calls Tryz.prog 23 [.slice p n cp, .int .i64 (most : Int)].toArray w (Ret fun v w' => ∃ B : Bool, v = .bool B ∧ (B = true → fewS R most) ∧ w = w') := by
  have hmax := h.max
  have hml : maxLen = 9223372036854775807 := by decide
  have hRl := h.1
  refine calls_W (fn := Tryz.f23) (rs := [.tmp 4]) (n := 59) Tryz.func23 rfl rfl Tryz.ntmps23 (by kernel_rfl) rfl ?_
  refine W_seq ?_
  refine W_region ?_
  refine WR_val rfl (rn_assign) ?_
  refine WR_nil ?_
  refine thenN ?_
  refine W_seq ?_
  refine W_seq ?_
  refine W_region ?_
  refine WR_val rfl (rn_assign) ?_
  refine WR_nil ?_
  refine thenN ?_
  refine W_block ?_
  refine W_loop (α := Nat) 0 (fun i => [(5, .int .i64 (i : Nat)), (0, .slice p n cp), (1, .int .i64 (most : Int))]) (fun i w' => i ≤ n ∧ (∀ (j : Nat) (a : StepT), j < i → R[j]? = some a → a.lv.length ≤ 62 ∧ a.picks.length ≤ 200) ∧ w = w') (fun i => n - i)
    ⟨rfl, rfl, rfl, rfl⟩ ⟨Nat.zero_le _, (by intro j x hj; exact absurd hj (Nat.not_lt_zero _)), rfl⟩ ?_
  rintro i f wr ⟨hi, hall, rfl⟩
  refine W_seq ?_
  refine W_seq ?_
  refine W_region ?_
  refine WR_val rfl (rn_move) ?_
  refine WR_val rfl (rn_move) ?_
  refine WR_val rfl (rn_lenSl (e := 58) (sz := 4) (by kernel_rfl) rfl rfl) ?_
  refine WR_val rfl (rn_lss rfl rfl) ?_
  refine WR_val rfl (rn_move) ?_
  refine WR_part 11 rfl (fun hlt => ?_) (fun hlt => ?_)
  ·
    refine WR_yes rfl ?_
    refine WR_val rfl (rn_move) ?_
    refine WR_yes rfl ?_
    refine WR_val rfl (rn_move) ?_
    refine WR_yes rfl ?_
    refine WR_val rfl (rn_leq rfl rfl) ?_
    refine WR_val rfl (rn_pick_t rfl) ?_
    refine WR_nil ?_
    refine thenN ?_
    refine W_ifp rfl (fun hle => ?_) (fun hle => ?_)
    ·
      refine W_skip ?_
      refine thenN ?_
      refine W_seq ?_
      refine W_block ?_
      refine W_seq ?_
      refine W_seq ?_
      have hobt := h.get (i := i) (by omega)
      obtain ⟨a, hx⟩ := hobt
      have hobt := h.some (by omega)
      obtain ⟨gp, op, rfl, _⟩ := hobt
      have hle := h.el hx
      obtain ⟨cs, ⟨q, c1, q2, c2, rfl, hq1, hq2, _⟩, hcl, hce⟩ := hle
      have hqm := hq1.max
      refine W_region ?_
      refine WR_val rfl (rn_move) ?_
      refine WR_val rfl (rn_move) ?_
      refine WR_val rfl (rn_indexSl (e := 58) (sz := 4) (by kernel_rfl) rfl rfl (i) (by omega) (by omega)) ?_
      refine WR_val rfl (rn_fieldAddr (off := 2) (by kernel_rfl) rfl) ?_
      refine WR_val rfl (rn_load rfl (Ld.one (by kernel_rfl) (hce 2 _ rfl))) ?_
      refine WR_val rfl (rn_lenSl (e := 69) (sz := 2) (by kernel_rfl) rfl rfl) ?_
      refine WR_val rfl (rn_gtr rfl rfl) ?_
      refine WR_val rfl (rn_move) ?_
      refine WR_part 25 rfl (fun h62 => ?_) (fun h62 => ?_)
      ·
        refine WR_no rfl rfl ?_
        refine WR_no rfl rfl ?_
        refine WR_no rfl rfl ?_
        refine WR_no rfl rfl ?_
        refine WR_no rfl rfl ?_
        refine WR_no rfl rfl ?_
        refine WR_no rfl rfl ?_
        refine WR_val rfl (rn_pick_t rfl) ?_
        refine WR_nil ?_
        refine thenN ?_
        refine W_tb rfl (rfl) ?_
        refine W_seq ?_
        refine W_region ?_
        refine WR_val rfl (rn_assign) ?_
        refine WR_nil ?_
        refine thenN ?_
        refine W_ret ?_
        refine thenR ?_
        refine blockR ?_
        refine thenR ?_
        refine loopR ?_
        refine blockR ?_
        refine thenR ?_
        refine ret_ret [_] ⟨rfl, trivial⟩ ?_
        exact ⟨false, rfl, by simp, rfl⟩
      ·
        refine WR_yes rfl ?_
        refine WR_val rfl (rn_move) ?_
        refine WR_yes rfl ?_
        refine WR_val rfl (rn_move) ?_
        refine WR_yes rfl ?_
        refine WR_val rfl (rn_indexSl (e := 58) (sz := 4) (by kernel_rfl) rfl rfl (i) (by omega) (by omega)) ?_
        refine WR_yes rfl ?_
        refine WR_val rfl (rn_fieldAddr (off := 3) (by kernel_rfl) rfl) ?_
        refine WR_yes rfl ?_
        refine WR_val rfl (rn_load rfl (Ld.one (by kernel_rfl) (hce 3 _ rfl))) ?_
        refine WR_yes rfl ?_
        refine WR_val rfl (rn_lenSl (e := 3) (sz := 1) (by kernel_rfl) rfl rfl) ?_
        refine WR_yes rfl ?_
        refine WR_val rfl (rn_gtr rfl rfl) ?_
        refine WR_val rfl (rn_pick_f rfl) ?_
        refine WR_nil ?_
        refine thenN ?_
        refine W_ifp rfl (fun h200 => ?_) (fun h200 => ?_)
        ·
          refine W_seq ?_
          refine W_region ?_
          refine WR_val rfl (rn_assign) ?_
          refine WR_nil ?_
          refine thenN ?_
          refine W_ret ?_
          refine thenR ?_
          refine blockR ?_
          refine thenR ?_
          refine loopR ?_
          refine blockR ?_
          refine thenR ?_
          refine ret_ret [_] ⟨rfl, trivial⟩ ?_
          exact ⟨false, rfl, by simp, rfl⟩
        ·
          refine W_skip ?_
          refine thenN ?_
          refine W_seq ?_
          refine W_region ?_
          refine WR_val rfl (rn_assign) ?_
          refine WR_nil ?_
          refine thenN ?_
          refine W_block ?_
          refine W_loop (α := Nat) 0 (fun k => [(6, .int .i64 (k : Nat)), (5, .int .i64 (i : Nat)), (0, .slice (some ⟨gp, op, none⟩) n cp), (1, .int .i64 (most : Int))]) (fun k w' => k ≤ a.lv.length ∧ w = w') (fun k => a.lv.length - k)
            ⟨rfl, rfl, rfl, rfl, rfl⟩ ⟨Nat.zero_le _, rfl⟩ ?_
          rintro k f wr ⟨hk, rfl⟩
          refine W_seq ?_
          refine W_seq ?_
          refine W_region ?_
          refine WR_val rfl (rn_move) ?_
          refine WR_val rfl (rn_move) ?_
          refine WR_val rfl (rn_move) ?_
          refine WR_val rfl (rn_indexSl (e := 58) (sz := 4) (by kernel_rfl) rfl rfl (i) (by omega) (by omega)) ?_
          refine WR_val rfl (rn_fieldAddr (off := 2) (by kernel_rfl) rfl) ?_
          refine WR_val rfl (rn_load rfl (Ld.one (by kernel_rfl) (hce 2 _ rfl))) ?_
          refine WR_val rfl (rn_lenSl (e := 69) (sz := 2) (by kernel_rfl) rfl rfl) ?_
          refine WR_val rfl (rn_lss rfl rfl) ?_
          refine WR_nil ?_
          refine thenN ?_
          refine W_ifp rfl (fun hlk => ?_) (fun hlk => ?_)
          ·
            refine W_skip ?_
            refine thenN ?_
            refine W_seq ?_
            refine W_block ?_
            refine W_seq ?_
            have hobt := hq1.get (i := k) (by omega)
            obtain ⟨b, hy⟩ := hobt
            have hobt := hq1.some (by omega)
            obtain ⟨gq, oq, rfl, _⟩ := hobt
            have hle2 := hq1.el hy
            obtain ⟨cs2, ⟨q3, c3, rfl, _⟩, hcl2, hce2⟩ := hle2
            refine W_region ?_
            refine WR_val rfl (rn_move) ?_
            refine WR_val rfl (rn_move) ?_
            refine WR_val rfl (rn_indexSl (e := 58) (sz := 4) (by kernel_rfl) rfl rfl (i) (by omega) (by omega)) ?_
            refine WR_val rfl (rn_fieldAddr (off := 2) (by kernel_rfl) rfl) ?_
            refine WR_val rfl (rn_load rfl (Ld.one (by kernel_rfl) (hce 2 _ rfl))) ?_
            refine WR_val rfl (rn_move) ?_
            refine WR_val rfl (rn_indexSl (e := 69) (sz := 2) (by kernel_rfl) rfl rfl (k) (by omega) (by omega)) ?_
            refine WR_val rfl (rn_fieldAddr (off := 1) (by kernel_rfl) rfl) ?_
            refine WR_val rfl (rn_load rfl (Ld.one (by kernel_rfl) (hce2 1 _ rfl))) ?_
            refine WR_val rfl (rn_lenSl (e := 5) (sz := 1) (by kernel_rfl) rfl rfl) ?_
            refine WR_val rfl (rn_gtr rfl rfl) ?_
            refine WR_nil ?_
            refine thenN ?_
            refine W_ifp rfl (fun h600 => ?_) (fun h600 => ?_)
            ·
              refine W_seq ?_
              refine W_region ?_
              refine WR_val rfl (rn_assign) ?_
              refine WR_nil ?_
              refine thenN ?_
              refine W_ret ?_
              refine blockR ?_
              refine thenR ?_
              refine loopR ?_
              refine blockR ?_
              refine blockR ?_
              refine thenR ?_
              refine loopR ?_
              refine blockR ?_
              refine thenR ?_
              refine ret_ret [_] ⟨rfl, trivial⟩ ?_
              exact ⟨false, rfl, by simp, rfl⟩
            ·
              refine W_skip ?_
              refine blockN ?_
              refine thenN ?_
              refine W_region ?_
              refine WR_val rfl (rn_move) ?_
              refine WR_val rfl (rn_add rfl rfl (Coup.w64 (by omega))) ?_
              refine WR_val rfl (rn_assign) ?_
              refine WR_nil ?_
              refine loopN ⟨k + 1, by omega, ⟨by go_num, rfl, rfl, rfl, rfl⟩, by omega, rfl⟩
          ·
            refine W_exit ?_
            refine thenX ?_
            refine loopX ?_
            refine blockX ?_
            refine blockN ?_
            refine thenN ?_
            refine W_region ?_
            refine WR_val rfl (rn_move) ?_
            refine WR_val rfl (rn_add rfl rfl (Coup.w64 (by omega))) ?_
            refine WR_val rfl (rn_assign) ?_
            refine WR_nil ?_
            refine loopN ⟨i + 1, by omega, ⟨by go_num, rfl, rfl, rfl⟩, by omega, (fun j x hj hx2 => ?_), rfl⟩
            by_cases hji : j = i
            · rw [hji, hx] at hx2; cases hx2; exact ⟨by omega, by omega⟩
            · exact hall j x (by omega) hx2
    ·
      refine W_exit ?_
      refine thenX ?_
      refine loopX ?_
      refine blockX ?_
      refine thenN ?_
      refine W_seq ?_
      refine W_region ?_
      refine WR_val rfl (rn_move) ?_
      refine WR_val rfl (rn_lenSl (e := 58) (sz := 4) (by kernel_rfl) rfl rfl) ?_
      refine WR_val rfl (rn_move) ?_
      refine WR_val rfl (rn_leq rfl rfl) ?_
      refine WR_val rfl (rn_assign) ?_
      refine WR_nil ?_
      refine thenN ?_
      refine W_ret ?_
      refine ret_ret [_] ⟨rfl, trivial⟩ ?_
      exact ⟨_, rfl, fun h => absurd (of_decide_eq_true h) (by omega), rfl⟩
  ·
    refine WR_no rfl rfl ?_
    refine WR_no rfl rfl ?_
    refine WR_no rfl rfl ?_
    refine WR_val rfl (rn_pick_f rfl) ?_
    refine WR_nil ?_
    refine thenN ?_
    refine W_f rfl ?_
    refine W_exit ?_
    refine thenX ?_
    refine loopX ?_
    refine blockX ?_
    refine thenN ?_
    refine W_seq ?_
    refine W_region ?_
    refine WR_val rfl (rn_move) ?_
    refine WR_val rfl (rn_lenSl (e := 58) (sz := 4) (by kernel_rfl) rfl rfl) ?_
    refine WR_val rfl (rn_move) ?_
    refine WR_val rfl (rn_leq rfl rfl) ?_
    refine WR_val rfl (rn_assign) ?_
    refine WR_nil ?_
    refine thenN ?_
    refine W_ret ?_
    refine ret_ret [_] ⟨rfl, trivial⟩ ?_
    have hin : i = n := by omega
    subst hin
    exact ⟨_, rfl, fun h => ⟨by have := of_decide_eq_true h; omega, fun a ha => by
      have hobt := List.mem_iff_getElem?.1 ha
      obtain ⟨j, hj⟩ := hobt
      exact hall j a (by have := (List.getElem?_eq_some_iff.1 hj).1; omega) hj⟩, rfl⟩
end Go.Proofs.YtkkgahgpemepeaaGreat

/- Lists of records in memory that no write on a disk touches; what a loss of power may leave. -/
namespace Go.Proofs.YtkkgahgpemepeaaGreat
open Go Go.RowKit Coup

/-- A slice whose block lies below lo, or in L. -/
def Shel (lo : Nat) (L : List Nat) (n : Nat) (q : Option Addr) : Prop := 0 < n → ∀ b o, q = some ⟨b, o, none⟩ → b < lo ∨ b ∈ L
theorem Shel.weak {lo n : Nat} {L L2 : List Nat} {q : Option Addr} (h : Shel lo L n q) (h2 : ∀ b ∈ L, b ∈ L2) : Shel lo L2 n q := fun h0 b o e => (h h0 b o e).imp id (h2 b)
theorem Shel.kp {lo m n sz : Nat} {L M : List Nat} {q : Option Addr} {cs : List Value} {w w' : World} (h : Shel lo L n q) (hs : SlAt w q n sz cs) (k : Kp M w w') (hM : ∀ b ∈ M, ¬ (b < lo ∨ b ∈ L)) : SlAt w' q n sz cs :=
  sl_kp0 hs k fun h0 b o e hm => hM b hm (h h0 b o e)
structure RecL (lo : Nat) (L : List Nat) (w : World) (q : Option Addr) (r : Rec) : Prop where
  at_ : SlAt w q r.length 513 (chsV r)
  sh : Shel lo L r.length q
structure AllL (lo : Nat) (L : List Nat) (w : World) (p : Option Addr) (S : List Rec) : Prop where
  ex : ∃ vs, SlAt w p S.length 1 vs ∧ Shel lo L S.length p ∧ ∀ (i : Nat) r, S[i]? = some r → ∃ q c, vs[i]? = some (.slice q r.length c) ∧ RecL lo L w q r
structure AllM (lo : Nat) (L : List Nat) (w : World) (p : Option Addr) (ML : List (List Rec)) : Prop where
  ex : ∃ vs, SlAt w p ML.length 1 vs ∧ Shel lo L ML.length p ∧ ∀ (i : Nat) S, ML[i]? = some S → ∃ q c, vs[i]? = some (.slice q S.length c) ∧ AllL lo L w q S
section
variable {lo : Nat} {L L2 M : List Nat} {w w' : World} {p q : Option Addr} {r : Rec} {S : List Rec} {ML : List (List Rec)}
theorem RecL.kpd (h : RecL lo L w q r) (k : Kp M w w') (hM : ∀ b ∈ M, ¬ (b < lo ∨ b ∈ L)) : RecL lo L w' q r := ⟨Shel.kp (m := 0) h.sh h.at_ k hM, h.sh⟩
theorem AllL.kpd (h : AllL lo L w p S) (k : Kp M w w') (hM : ∀ b ∈ M, ¬ (b < lo ∨ b ∈ L)) : AllL lo L w' p S :=
  let ⟨vs, h1, h2, h3⟩ := h.ex; ⟨vs, Shel.kp (m := 0) h2 h1 k hM, h2, fun i r hr => let ⟨q, c, e, h4⟩ := h3 i r hr; ⟨q, c, e, h4.kpd k hM⟩⟩
theorem AllM.kpd (h : AllM lo L w p ML) (k : Kp M w w') (hM : ∀ b ∈ M, ¬ (b < lo ∨ b ∈ L)) : AllM lo L w' p ML :=
  let ⟨vs, h1, h2, h3⟩ := h.ex; ⟨vs, Shel.kp (m := 0) h2 h1 k hM, h2, fun i r hr => let ⟨q, c, e, h4⟩ := h3 i r hr; ⟨q, c, e, h4.kpd k hM⟩⟩
theorem RecL.new (h : RecL lo L w q r) (hb : Below w.heap.size w w') : RecL lo L w' q r := h.kpd (M := []) (Kp.of_below hb) (by simp)
theorem AllL.new (h : AllL lo L w p S) (hb : Below w.heap.size w w') : AllL lo L w' p S := h.kpd (M := []) (Kp.of_below hb) (by simp)
theorem AllM.new (h : AllM lo L w p ML) (hb : Below w.heap.size w w') : AllM lo L w' p ML := h.kpd (M := []) (Kp.of_below hb) (by simp)
theorem outL_no {n : Nat} (h2 : ∀ b ∈ L, b ∈ L2) : ∀ b ∈ outL lo L2 n, ¬ (b < lo ∨ b ∈ L) := fun b hb hx => notLL (hx.imp id (h2 b)) hb
theorem RecL.ll (h : RecL lo L w q r) (k : LoL lo L2 w w') (h2 : ∀ b ∈ L, b ∈ L2) : RecL lo L w' q r := h.kpd k.kp (outL_no h2)
theorem AllL.ll (h : AllL lo L w p S) (k : LoL lo L2 w w') (h2 : ∀ b ∈ L, b ∈ L2) : AllL lo L w' p S := h.kpd k.kp (outL_no h2)
theorem AllM.ll (h : AllM lo L w p ML) (k : LoL lo L2 w w') (h2 : ∀ b ∈ L, b ∈ L2) : AllM lo L w' p ML := h.kpd k.kp (outL_no h2)
theorem RecL.weak (h : RecL lo L w q r) (h2 : ∀ b ∈ L, b ∈ L2) : RecL lo L2 w q r := ⟨h.at_, h.sh.weak h2⟩
theorem AllL.weak (h : AllL lo L w p S) (h2 : ∀ b ∈ L, b ∈ L2) : AllL lo L2 w p S :=
  let ⟨vs, h1, h4, h3⟩ := h.ex; ⟨vs, h1, h4.weak h2, fun i r hr => let ⟨q, c, e, h5⟩ := h3 i r hr; ⟨q, c, e, h5.weak h2⟩⟩
theorem AllM.weak (h : AllM lo L w p ML) (h2 : ∀ b ∈ L, b ∈ L2) : AllM lo L2 w p ML :=
  let ⟨vs, h1, h4, h3⟩ := h.ex; ⟨vs, h1, h4.weak h2, fun i r hr => let ⟨q, c, e, h5⟩ := h3 i r hr; ⟨q, c, e, h5.weak h2⟩⟩
theorem AllL.toR (h : AllL lo L w p S) : AllR w p S := let ⟨vs, h1, _, h3⟩ := h.ex; ⟨vs, h1, fun i r hr => let ⟨q, c, e, h5⟩ := h3 i r hr; ⟨q, c, e, h5.at_⟩⟩
theorem AllL.nil (lo : Nat) (L : List Nat) (w : World) : AllL lo L w none [] := ⟨[], ⟨rfl, by decide, fun h0 => absurd h0 (by decide)⟩, fun h0 => absurd h0 (by decide), fun i r hr => by simp at hr⟩
theorem AllZ.l {C : List Nat} (h : AllZ p S w C) (hC : ∀ b ∈ C, b ∈ L) : AllL lo L w p S := by
  obtain ⟨_, vs, h2, h3, h4⟩ := h
  refine ⟨vs, h2, fun h0 b o e => .inr (hC b (h3 h0 b o e)), fun i r hr => ?_⟩
  obtain ⟨b, off, c, e1, e2, e3⟩ := h4 i r hr
  exact ⟨_, c, e1, e2, fun _ b' o' e => by cases e; exact .inr (hC _ e3)⟩
theorem own_shel {base e sz m c : Nat} {xs : List Value} (h : ownsAt w base e sz (.slice q m c) m xs) : Shel lo ((Value.slice q m c).ownBlock.toList ++ L) m q := fun _ b o e => by
  subst e
  exact .inr (List.mem_append_left _ (by simp [Value.ownBlock]))
theorem AllL.one {i : Nat} (vs : List Value) (h3 : ∀ (i : Nat) r, S[i]? = some r → ∃ q c, vs[i]? = some (.slice q r.length c) ∧ RecL lo L w q r) (hl : vs.length = S.length) : ∀ v ∈ vs, v.oneCell' = true := fun v hv => by
  obtain ⟨j, hj⟩ := List.mem_iff_getElem?.1 hv
  have hlt := (List.getElem?_eq_some_iff.1 hj).1
  obtain ⟨q, c, e, _⟩ := h3 j _ (List.getElem?_eq_getElem (by omega : j < S.length))
  rw [hj] at e
  cases e; rfl
theorem AllL.snoc {vs : List Value} {c : Nat} (hs : SlAt w p (S ++ [r]).length 1 (vs ++ [.slice q r.length c])) (hp : Shel lo L (S ++ [r]).length p) (hl : vs.length = S.length)
    (h3 : ∀ (i : Nat) r, S[i]? = some r → ∃ q c, vs[i]? = some (.slice q r.length c) ∧ RecL lo L w q r) (hr : RecL lo L w q r) : AllL lo L w p (S ++ [r]) := by
  refine ⟨_, hs, hp, fun i x hx => ?_⟩
  by_cases hi : i < S.length
  · rw [List.getElem?_append_left hi] at hx
    obtain ⟨q', c', e, h4⟩ := h3 i x hx
    exact ⟨q', c', by rw [List.getElem?_append_left (by omega)]; exact e, h4⟩
  · have hi' : i = S.length := by
      have := (List.getElem?_eq_some_iff.1 hx).1
      simp at this; omega
    subst hi'
    simp at hx
    subst hx
    exact ⟨q, c, by rw [← hl]; simp, hr⟩
theorem two_out {X Z : World → List Nat → Prop} [hZ : Thing Z] (h : Two X (AndZ None Z) lo L w) : ∃ C, Z w C ∧ Two X None lo (C ++ L) w ∧ ∀ b ∈ C, b ∉ L := by
  obtain ⟨⟨B, E, h1, ⟨C1, C2, rfl, h2, hz⟩, h3, h4⟩, h5, h6⟩ := h
  refine ⟨C2, hz, ⟨⟨B, [], h1, rfl, fun b hb => ⟨(h3 b hb).1, by simp, fun hm => ?_⟩, fun b hb => nomatch hb⟩, h5, fun b hb => ?_⟩, fun b hb => (h4 b (List.mem_append_right _ hb)).2⟩
  · rcases List.mem_append.1 hm with hm | hm
    · exact (h3 b hb).2.1 (List.mem_append_right _ hm)
    · exact (h3 b hb).2.2 hm
  · rcases List.mem_append.1 hb with hb | hb
    · exact hZ.lt hz b hb
    · exact h6 b hb
theorem lg_out {Z : World → List Nat → Prop} [hZ : Thing Z] {g x : Nat} {D : Dk} {G : Lg} (h : LgAt g x (AndZ None Z) lo L D G w) : ∃ C, Z w C ∧ LgAt g x None lo (C ++ L) D G w := by
  obtain ⟨C, h1, h2, h3⟩ := two_out h.two
  refine ⟨C, h1, h2.weak fun b hb => ?_, h.rowx, h.ge, fun hm => ?_⟩
  · rcases List.mem_cons.1 hb with rfl | hb
    · exact List.mem_append_right _ (List.mem_cons_self ..)
    · rcases List.mem_append.1 hb with hb | hb
      · exact List.mem_append_left _ hb
      · exact List.mem_append_right _ (List.mem_cons_of_mem _ hb)
  · rcases List.mem_append.1 hm with hm | hm
    · exact h3 x hm (List.mem_cons_self ..)
    · exact h.ni hm
theorem LgAt.newv {g x base e sz m : Nat} {D : Dk} {G : Lg} {v : Value} {xs : List Value} (h : LgAt g x None lo L D G w) (hb : Below w.heap.size w w') (ho : ownsAt w' base e sz v m xs) (hbase : w.heap.size ≤ base) : LgAt g x None lo (v.ownBlock.toList ++ L) D G w' := by
  cases hv : v.ownBlock with
  | none => exact h.new hb
  | some b =>
    have := ho.lt b hv
    exact h.newc hb (Nat.le_trans hbase this.1) this.2
theorem Two.newv {g base e sz m : Nat} {D : Dk} {v : Value} {xs : List Value} (h : Two (DZ g D) None lo L w) (hb : Below w.heap.size w w') (ho : ownsAt w' base e sz v m xs) (hbase : w.heap.size ≤ base) : Two (DZ g D) None lo (v.ownBlock.toList ++ L) w' := by
  cases hv : v.ownBlock with
  | none => exact h.new hb
  | some b =>
    have := ho.lt b hv
    exact h.newc hb (Nat.le_trans hbase this.1) this.2
end
/-! ### What a loss of power may leave -/
theorem crash_ok {D : Dk} (h : DkOk D) (p : List Int) : DkOk (crashD D p) := by
  have hv : ∀ v ∈ (crashD D p).V, ∃ s : Sec, v = [s] ∧ s.length = 128 := fun v hv => by
    obtain ⟨j, hj⟩ := List.mem_iff_getElem?.1 hv
    have hjl := (List.getElem?_eq_some_iff.1 hj).1
    rw [crash_len] at hjl
    obtain ⟨s, h1, h2, _⟩ := crash_ver h p hjl
    have : v = ver (crashD D p) j := by
      rw [ver, List.getD_eq_getElem?_getD, hj]; rfl
    exact ⟨s, this.trans h1, h2⟩
  refine ⟨by rw [crash_len]; exact h.n, fun v h1 => ?_, fun v h1 => ?_, fun v h1 => ?_⟩
  · obtain ⟨s, rfl, _⟩ := hv v h1; simp
  · obtain ⟨s, rfl, h2⟩ := hv v h1
    intro t ht
    rw [List.mem_singleton.1 ht]; exact h2
  · obtain ⟨s, rfl, _⟩ := hv v h1; simp
def CrashOk (D : Dk) (n cb : Nat) (ML : List (List Rec)) : Prop := ∀ p, ∃ c s T, c ≤ cb ∧ LogOn (crashD D p) n c (c + 1) s T ∧ T.map (·.2) ∈ ML
theorem LogOn.up {D : Dk} {n c cx s c' cx' : Nat} {T : List (Nat × Rec)} (h : LogOn D n c cx s T) (hx : cx ≤ cx') : LogOn D n c cx' s T := ⟨h.ok, h.len, h.short, h.head, h.inv.up (Nat.le_refl _) hx⟩
theorem LogOn.rest {D : Dk} {n c cx s : Nat} {T : List (Nat × Rec)} (h : LogOn D n c cx s T) (hx : cx ≤ c + 1) : CrashOk D n c [T.map (·.2)] := fun p =>
  ⟨c, s, T, Nat.le_refl _, (h.crash p (crash_ok h.ok p)).up (c' := c) hx, by simp⟩
def gOf (n c s : Nat) (T : List (Nat × Rec)) (d : Bool) : Lg := ⟨c, s, n, T.length, atT T, d⟩
theorem LogOn.lg {D : Dk} {n c cx s : Nat} {T : List (Nat × Rec)} (h : LogOn D n c cx s T) (hc : c ≤ 4611686018427387904) (h4 : 4 ≤ n) (hn : n ≤ 4000) (d : Bool) : LgOk D (gOf n c s T d) := by
  obtain ⟨P, X, _, _, hat, _⟩ := h.inv.ex
  exact ⟨h.inv.s1, h.inv.sc, hc, h4, hn, hat, atT_len h.inv.ok, h.len⟩
theorem save_short {D : Dk} {k : Nat} (h : shortD D k) (c s : Nat) : shortD (saveD D c s) (k + 1) := by
  have h1 : shortD (writeA D 0 (headB c s)) (k + 1) := writeA_short h _ _
  unfold saveD
  split
  · unfold flushD
    split
    · intro v hv
      obtain ⟨u, _, rfl⟩ := List.mem_map.1 hv
      simp
    · intro v hv
      rw [stepD_V] at hv
      exact h1 v hv
  · exact h1
theorem save_lenD (D : Dk) (c s : Nat) : (saveD D c s).V.length = D.V.length := by rw [(save_put D c s).1, put_len]
theorem put_short {D : Dk} {k : Nat} (h : shortD D k) (a : Nat) (R : List Sec) : shortD (putW D a R).1 (k + R.length + 1) := by
  have h1 : shortD (writesW D a R).1 (k + R.length) := writesW_short R D a k h
  unfold putW
  split
  · show shortD (flushD _) _
    unfold flushD
    split
    · intro v hv
      obtain ⟨u, _, rfl⟩ := List.mem_map.1 hv
      simp
    · intro v hv
      rw [stepD_V] at hv
      exact short_of h1 (by omega) v hv
  · exact short_of h1 (by omega)
/-- What a commit does to a log, and to what a loss of power may leave. -/
theorem commit_cases {D : Dk} {n c s : Nat} {T : List (Nat × Rec)} {r : Rec} (h : LogOn D n c c s T) (hd : D.dead = false) (hc : c ≤ 4611686018427387904) (hn : n ≤ 4000) (hr : chsOk r) :
    ∃ (e : Int) (D' : Dk) (G' : Lg), commitR D (gOf n c s T false) r = (e, D', G') ∧ D'.V.length = D.V.length ∧ shortD D' 1000 ∧ (DkOk D' →
      ((e ≠ 10 ∧ e ≠ 0 ∧ D' = D ∧ G' = gOf n c s T false) ∨ (e = 0 ∧ G' = gOf n c s (T ++ [(c, r)]) false ∧ D'.dead = false ∧ LogOn D' n c c s (T ++ [(c, r)])) ∨ (e = 10 ∧ G'.dead = true ∧ D'.dead = true ∧ CrashOk D' n c [T.map (·.2), T.map (·.2) ++ [r]]))) := by
  have hsh := h.short
  by_cases hm : mayR r = false
  · exact ⟨2, D, gOf n c s T false, by rw [commitR, if_neg (by simp [gOf]), if_pos hm], rfl, short_of hsh (by omega), fun _ => .inl ⟨by decide, by decide, rfl, rfl⟩⟩
  · have hmt : mayR r = true := by
      cases hx : mayR r with
      | true => rfl
      | false => exact absurd hx hm
    by_cases hfit : (gOf n c s T false).size < (gOf n c s T false).at_ + (rowW (gOf n c s T false) r).length
    · exact ⟨8, D, gOf n c s T false, by rw [commitR, if_neg (by simp [gOf]), if_neg hm, if_pos hfit], rfl, short_of hsh (by omega), fun _ => .inl ⟨by decide, by decide, rfl, rfl⟩⟩
    · have hfit2 : ¬ n < atT T + (rowW (gOf n c s T false) r).length := hfit
      have hl := rowW_len (gOf n c s T false) r
      have hr60 := of_decide_eq_true (Bool.and_eq_true_iff.1 hmt).1
      have hN : needN (516 * r.length) ≤ 340 := by unfold needN manyN; omega
      have hsp := put_short hsh (1 + atT T) (rowW (gOf n c s T false) r)
      have hlen := put_len D (1 + atT T) (rowW (gOf n c s T false) r)
      have hcm : commitR D (gOf n c s T false) r = if (putW D (1 + atT T) (rowW (gOf n c s T false) r)).2 then (0, (putW D (1 + atT T) (rowW (gOf n c s T false) r)).1, gOf n c s (T ++ [(c, r)]) false) else (10, (putW D (1 + atT T) (rowW (gOf n c s T false) r)).1, gOf n c s T true) := by
        have hat : atT (T ++ [(c, r)]) = atT T + (rowW (gOf n c s T false) r).length := by rw [hl]; simp [atT, atS]
        rw [commitR, if_neg (by simp [gOf]), if_neg hm, if_neg hfit, gOf, gOf, List.length_append, List.length_singleton, hat]
        rfl
      have hput := fun hok => h.put (G := gOf n c s T false) (r := r) hd ⟨rfl, rfl, rfl⟩ hc hn hr hmt (by rw [hl] at hfit2; omega) hok fun p => crash_ok hok p
      rw [hcm]
      cases hp : (putW D (1 + atT T) (rowW (gOf n c s T false) r)).2 with
      | true =>
        refine ⟨_, _, _, by rw [if_pos rfl], hlen, short_of hsp (by rw [hl]; omega), fun hok => .inr (.inl ?_)⟩
        rcases hput hok with ⟨_, h2, h3⟩ | ⟨h1, _⟩
        · exact ⟨rfl, rfl, h2, h3⟩
        · rw [show (gOf n c s T false).at_ = atT T from rfl, hp] at h1; cases h1
      | false =>
        refine ⟨_, _, _, by rw [if_neg (by simp)], hlen, short_of hsp (by rw [hl]; omega), fun hok => .inr (.inr ?_)⟩
        rcases hput hok with ⟨h1, _⟩ | ⟨_, h2, h3⟩
        · rw [show (gOf n c s T false).at_ = atT T from rfl, hp] at h1; cases h1
        · refine ⟨rfl, rfl, h2, fun p => ?_⟩
          rcases h3 p with h4 | h4
          · exact ⟨c, s, T, Nat.le_refl _, h4, by simp⟩
          · exact ⟨c, s, T ++ [(c, r)], Nat.le_refl _, h4, by simp⟩
/-- A truncation. -/
theorem trunc_cases {D : Dk} {n c s : Nat} {T : List (Nat × Rec)} (h : LogOn D n c c s T) (hd : D.dead = false) (hok : DkOk (saveD D (c + 1) (c + 1))) :
    (saveE D (c + 1) (c + 1) = true ∧ (saveD D (c + 1) (c + 1)).dead = false ∧ LogOn (saveD D (c + 1) (c + 1)) n (c + 1) (c + 1) (c + 1) []) ∨
    (saveE D (c + 1) (c + 1) = false ∧ (saveD D (c + 1) (c + 1)).dead = true ∧ CrashOk (saveD D (c + 1) (c + 1)) n (c + 1) [T.map (·.2), []]) := by
  rcases h.save (c' := c + 1) (cx' := c + 1) (s' := c + 1) (T' := []) hd hok (fun p => crash_ok hok p) (fun hi => hi.trunc) with ⟨a, b, d⟩ | ⟨a, b, d⟩
  · exact .inl ⟨a, b, d⟩
  · refine .inr ⟨a, b, fun p => ?_⟩
    rcases d p with h4 | h4
    · exact ⟨c, s, T, by omega, h4.up (c' := c) (by omega), by simp⟩
    · exact ⟨c + 1, c + 1, [], Nat.le_refl _, h4.up (c' := c) (by omega), by simp⟩
/-- Opened. -/
theorem open_cases {D : Dk} {n c s : Nat} {T : List (Nat × Rec)} (h : LogOn D n c (c + 1) s T) (hd : D.dead = false) (hok : DkOk (saveD D (c + 1) s)) :
    (saveE D (c + 1) s = true ∧ (saveD D (c + 1) s).dead = false ∧ LogOn (saveD D (c + 1) s) n (c + 1) (c + 1) s T) ∨
    (saveE D (c + 1) s = false ∧ (saveD D (c + 1) s).dead = true ∧ CrashOk (saveD D (c + 1) s) n (c + 1) [T.map (·.2)]) := by
  rcases h.save (c' := c + 1) (cx' := c + 1) (s' := s) (T' := T) hd hok (fun p => crash_ok hok p) (fun hi => hi.up (Nat.le_succ _) (Nat.le_refl _)) with ⟨a, b, d⟩ | ⟨a, b, d⟩
  · exact .inl ⟨a, b, d⟩
  · refine .inr ⟨a, b, fun p => ?_⟩
    rcases d p with h4 | h4
    · exact ⟨c, s, T, by omega, h4, by simp⟩
    · exact ⟨c + 1, s, T, Nat.le_refl _, h4.up (c' := c) (by omega), by simp⟩
theorem LogOn.opens {D : Dk} {n c s : Nat} {T : List (Nat × Rec)} (h : LogOn D n c (c + 1) s T) (hc : c < 4611686018427387904) (h4 : 4 ≤ n) (hn : n ≤ 4000) :
    openE D n = 0 ∧ hdC (readD D 0) = c ∧ hdS (readD D 0) = s ∧ recsOf D (headG D n) = T.map (·.2) := by
  have hl := h.len
  obtain ⟨e1, e2, e3⟩ := open_head (n := (n : Int)) (decide_eq_true (by omega) : fitsN D.V.length n = true) h.head h.inv.s1 h.inv.sc hc
  refine ⟨e1, e2, e3, ?_⟩
  rw [recsOf, headG, e2, e3]
  show recsL s c 0 (rowsL (n : Int).toNat (logB D (n : Int).toNat) (n : Int).toNat) = _
  rw [Int.toNat_natCast]
  exact h.inv.recs (by omega) hn
end Go.Proofs.YtkkgahgpemepeaaGreat

/- The law WalOpens: what is opened, whatever stands on a disk. -/
namespace Go.Proofs.YtkkgahgpemepeaaGreat
open Go Go.RowKit Coup

set_option maxRecDepth 20000 in
theorem room21r {y c s n a : Nat} {v : Value} {w : World} (hy : row w y [.int .u64 (c : Int), .int .u64 (s : Int), .int .i64 (n : Int), v, .int .i64 (a : Int)] 43) (hat : a ≤ n) (hn : n ≤ 4000) : Calls Tryz.prog 21 [.pointer (some ⟨y, 0, none⟩)].toArray w (Ret fun v w' => v = .int .i64 ((n - a : Nat) : Int) ∧ Below w.heap.size w w') := by
  have hB := Below.refl w.heap.size w
  refine calls_W (fn := Tryz.f21) (rs := [.tmp 2]) (n := 12) Tryz.func21 rfl rfl Tryz.ntmps21 (by kernel_rfl) rfl ?_
  refine W_seq ?_
  refine W_region ?_
  refine WR_val rfl (rn_assign) ?_
  refine WR_nil ?_
  refine thenN ?_
  refine W_seq ?_
  refine W_draw' [] (by kernel_rfl) ?_
  intro w901 hb901 hS901
  replace hy := hy.new hb901
  replace hB := hB.acc hb901
  have hy_d901 := hy
  have hB_d901 := hB
  refine WA_take 0 (by kernel_rfl) rfl (fun _ _ => rn_move) ?_
  refine WA_take 1 (by kernel_rfl) rfl (fun _ _ => rn_nilCheckP rfl) ?_
  refine WA_take 2 (by kernel_rfl) rfl (fun _ _ => rn_fieldAddr (off := 2) (by kernel_rfl) rfl) ?_
  refine WA_take 3 (by kernel_rfl) rfl (fun w' hS' => rn_load rfl (Ld.row1 (hy_d901.kpd hS' (by first | (simp; done) | (simp; omega) | (simp [*]; done) | exact notLL (Or.inl (by omega)) | exact notLL (Or.inr (by simp)) | exact fun g hm => Nat.le_trans (by omega) (inLL hm).1 | (intro b o e; cases e; exact notLL (Or.inl (by omega))) | (intro b hm; have := (hu.lt b (Option.mem_toList.1 hm)).1; omega) | (intro b o e; cases e; intro hm; have := (hu.lt _ (Option.mem_toList.1 hm)).1; omega))) (by kernel_rfl) rfl)) ?_
  refine WA_take 4 (by kernel_rfl) rfl (fun _ _ => rn_move) ?_
  refine WA_take 5 (by kernel_rfl) rfl (fun _ _ => rn_nilCheckP rfl) ?_
  refine WA_take 6 (by kernel_rfl) rfl (fun _ _ => rn_fieldAddr (off := 4) (by kernel_rfl) rfl) ?_
  refine WA_take 7 (by kernel_rfl) rfl (fun w' hS' => rn_load rfl (Ld.row1 (hy_d901.kpd hS' (by first | (simp; done) | (simp; omega) | (simp [*]; done) | exact notLL (Or.inl (by omega)) | exact notLL (Or.inr (by simp)) | exact fun g hm => Nat.le_trans (by omega) (inLL hm).1 | (intro b o e; cases e; exact notLL (Or.inl (by omega))) | (intro b hm; have := (hu.lt b (Option.mem_toList.1 hm)).1; omega) | (intro b o e; cases e; intro hm; have := (hu.lt _ (Option.mem_toList.1 hm)).1; omega))) (by kernel_rfl) rfl)) ?_
  refine WA_take 8 (by kernel_rfl) rfl (fun _ _ => rn_sub rfl rfl (Coup.w64 (by omega))) ?_
  refine WA_take 9 (by kernel_rfl) rfl (fun _ _ => rn_assign) ?_
  refine WA_done (by kernel_rfl) ?_
  refine thenN ?_
  refine W_ret ?_
  refine ret_ret [_] ⟨rfl, trivial⟩ ?_
  have he : (n : Int) - (a : Nat) = ((n - a : Nat) : Int) := by omega
  exact ⟨by show Value.int .i64 ((n : Int) - ((a : Nat) : Int)) = _; rw [he], hB⟩
theorem SaysAt.kpd {y c s n cp : Nat} {p : Option Addr} {S : List Rec} {C M : List Nat} {w w' : World} (h : SaysAt w y c s n p cp S C) (k : Kp M w w') (hM : ∀ b ∈ M, b ∉ C) : SaysAt w' y c s n p cp S C :=
  ⟨h.row.kpd k fun hm => hM y hm h.inC, h.inC, Thing.kpd h.all k fun b hb hm => hM b hm hb⟩
theorem SaysAt.new {y c s n cp : Nat} {p : Option Addr} {S : List Rec} {C : List Nat} {w w' : World} (h : SaysAt w y c s n p cp S C) (hb : Below w.heap.size w w') : SaysAt w' y c s n p cp S C := h.kpd (M := []) (Kp.of_below hb) (by simp)
theorem recs_fit {s c : Nat} : ∀ (f k m : Nat) {X : List UInt8}, X.length = m * 128 → m ≤ f → atS (recsL s c k (rowsL f X m)) ≤ m
  | 0, k, m, X, _, _ => by
    have : recsL s c k (rowsL 0 X m) = [] := rfl
    rw [this]; exact Nat.zero_le _
  | f + 1, k, m, X, hl, hf => by
    cases hj : joinIs X m with
    | false => rw [rowsL_zero hj]; exact Nat.zero_le _
    | true =>
      obtain ⟨h0, _, h3⟩ := join_facts hj
      obtain ⟨h4, h5⟩ := h3 hl
      rw [rowsL, if_pos hj]
      cases ho : okRow s c k ⟨hCount (halfAt X 0), hNum (halfAt X 0), joinB X⟩ with
      | none => rw [recsL_none ho]; exact Nat.zero_le _
      | some r =>
        rw [recsL_some ho]
        have ih := recs_fit f (k + 1) (m - needN (joinB X).length) (s := s) (c := c) (X := X.drop (128 * needN (joinB X).length)) (by rw [List.length_drop, hl]; omega) (by omega)
        have hr : ofR (joinB X) = some r := by
          unfold okRow at ho
          split at ho
          · exact ho
          · cases ho
        have hb := ofR_len hr
        have : atS (r :: recsL s c (k + 1) (rowsL f (X.drop (128 * needN (joinB X).length)) (m - needN (joinB X).length))) = needN (516 * r.length) + atS (recsL s c (k + 1) (rowsL f (X.drop (128 * needN (joinB X).length)) (m - needN (joinB X).length))) := by simp [atS]
        rw [this, ← hb]; omega
theorem recs_ok {s c : Nat} : ∀ (f k m : Nat) {X : List UInt8}, allOk (recsL s c k (rowsL f X m))
  | 0, k, m, X => fun r hr => nomatch hr
  | f + 1, k, m, X => by
    cases hj : joinIs X m with
    | false => rw [rowsL_zero hj]; exact fun r hr => nomatch hr
    | true =>
      rw [rowsL, if_pos hj]
      cases ho : okRow s c k ⟨hCount (halfAt X 0), hNum (halfAt X 0), joinB X⟩ with
      | none => rw [recsL_none ho]; exact fun r hr => nomatch hr
      | some r =>
        rw [recsL_some ho]
        have hr : ofR (joinB X) = some r := by
          unfold okRow at ho
          split at ho
          · exact ho
          · cases ho
        intro x hx
        rcases List.mem_cons.1 hx with rfl | hx
        · exact ofR_short hr
        · exact recs_ok f (k + 1) _ x hx
theorem secD_cons (D : Dk) (n : Nat) : secD D (n + 1) = readD D 0 :: secL D n := by
  rw [secD, List.range_succ_eq_map, List.map_cons, List.map_map, secL]
  congr 1
  refine List.map_congr_left fun i _ => ?_
  show readD D (i + 1) = readD D (1 + i)
  rw [Nat.add_comm]
theorem secD_take (D : Dk) {n m : Nat} (h : n ≤ m) : (secD D m).take n = secD D n := by
  rw [secD, secD, ← List.map_take, List.take_range, Nat.min_eq_left h]
theorem secD_same {D D' : Dk} {m : Nat} (h : ∀ j, j < m → readD D' j = readD D j) : secD D' m = secD D m := List.map_congr_left fun i hi => h i (List.mem_range.1 hi)
theorem secD_head {D D' : Dk} {m : Nat} {H : Sec} (hm : 0 < m) (h : ∀ j, j < m → readD D' j = if j = 0 then H else readD D j) : (secD D m).set 0 H = secD D' m := by
  refine List.ext_getElem? fun j => ?_
  rw [List.getElem?_set]
  by_cases hj : j < m
  · rw [secD_get D' hj, h j hj]
    by_cases h0 : 0 = j
    · subst h0; rw [if_pos rfl, if_pos rfl, if_pos (by rw [secD_len]; exact hm)]
    · rw [if_neg h0, if_neg fun e => h0 e.symm, secD_get D hj]
  · rw [if_neg (by omega), List.getElem?_eq_none (by rw [secD_len]; omega), List.getElem?_eq_none (by rw [secD_len]; omega)]
theorem open_shut {D : Dk} (h : shortD D 1) : opI D = [] := by
  unfold opI opN
  rw [List.map_eq_nil_iff, List.filter_eq_nil_iff]
  intro i hi
  have := h.ver (List.mem_range.1 hi)
  unfold openB
  simp; omega
theorem tOpen {g lo : Nat} {L : List Nat} {D : Dk} {w : World} {Y : World → List Nat → Prop} (h : Two (DZ g D) Y lo L w) (hs : shortD D 1) : Calls Tryz.prog 16 [.pointer (some ⟨g, 0, none⟩)].toArray w (Ret fun v w' => (∃ p c, v = .slice p 0 c) ∧ Below w.heap.size w w') := by
  obtain ⟨⟨B, C, h1, h2, h3, h4⟩, h5, h6⟩ := h
  refine (openC h1).to fun v w' ⟨p, c, e, _, _, hb⟩ => ⟨⟨p, c, ?_⟩, hb⟩
  rw [e, open_shut hs]; rfl
end Go.Proofs.YtkkgahgpemepeaaGreat

/- The law WalOpens, walked. -/
namespace Go.Proofs.YtkkgahgpemepeaaGreat
open Go Go.RowKit Coup

theorem recs_num {s c : Nat} : ∀ (f k m : Nat) {X : List UInt8}, X.length = m * 128 → m ≤ f → (recsL s c k (rowsL f X m)).length ≤ m
  | 0, k, m, X, _, _ => Nat.zero_le _
  | f + 1, k, m, X, hl, hf => by
    cases hj : joinIs X m with
    | false => rw [rowsL_zero hj]; exact Nat.zero_le _
    | true =>
      obtain ⟨h0, _, h3⟩ := join_facts hj
      obtain ⟨h4, h5⟩ := h3 hl
      rw [rowsL, if_pos hj]
      cases ho : okRow s c k ⟨hCount (halfAt X 0), hNum (halfAt X 0), joinB X⟩ with
      | none => rw [recsL_none ho]; exact Nat.zero_le _
      | some r =>
        rw [recsL_some ho]
        have ih := recs_num f (k + 1) (m - needN (joinB X).length) (s := s) (c := c) (X := X.drop (128 * needN (joinB X).length)) (by rw [List.length_drop, hl]; omega) (by omega)
        rw [List.length_cons]; omega
theorem lg_out2 {Z : World → List Nat → Prop} [hZ : Thing Z] {g x lo : Nat} {L : List Nat} {D : Dk} {G : Lg} {w : World} (h : LgAt g x (AndZ None Z) lo L D G w) : ∃ C, Z w C ∧ LgAt g x None lo (C ++ L) D G w ∧ ∀ b ∈ C, b ∉ L := by
  obtain ⟨C, h1, h2, h3⟩ := two_out h.two
  refine ⟨C, h1, ⟨h2.weak fun b hb => ?_, h.rowx, h.ge, fun hm => ?_⟩, fun b hb hm => h3 b hb (List.mem_cons_of_mem _ hm)⟩
  · rcases List.mem_cons.1 hb with rfl | hb
    · exact List.mem_append_right _ (List.mem_cons_self ..)
    · rcases List.mem_append.1 hb with hb | hb
      · exact List.mem_append_left _ hb
      · exact List.mem_append_right _ (List.mem_cons_of_mem _ hb)
  · rcases List.mem_append.1 hm with hm | hm
    · exact h3 x hm (List.mem_cons_self ..)
    · exact h.ni hm
/-- Opened, or not: whatever stands on the disk. -/
theorem openAny {g lo k : Nat} {L : List Nat} {D : Dk} {w : World} (h : Two (DZ g D) None lo L w) (ha : Alive D k) (hk : k ≤ 80000) (size : Int) (hs : wf64 size) :
    Calls Tryz.prog 7 [.pointer (some ⟨g, 0, none⟩), .int .i64 size].toArray w (Ret fun v w' => (∃ (vx pa : Option Addr) (ka ca : Nat) (e : Int) (D2 : Dk) (L2 : List Nat), v = .tuple #[.pointer vx, .slice pa ka ca, .int .i64 e] ∧ e = openE D size ∧ Two (DZ g D2) None lo L2 w' ∧ (∀ b ∈ L, b ∈ L2) ∧
      ((e ≠ 0 ∧ vx = none ∧ ka = 0 ∧ D2 = D ∧ L2 = L) ∨ (e = 0 ∧ ∃ x, vx = some ⟨x, 0, none⟩ ∧ ka = (recsOf D (headG D size)).length ∧ (∃ C, AllZ pa (recsOf D (headG D size)) w' C ∧ L2 = C ++ L ∧ ∀ b ∈ C, b ∉ L) ∧ D2 = saveD D (hdC (readD D 0) + 1) (hdS (readD D 0)) ∧
        LgAt g x None lo L2 D2 ⟨hdC (readD D 0) + 1, hdS (readD D 0), size.toNat, (recsOf D (headG D size)).length, atS (recsOf D (headG D size)), false⟩ w'))) ∧ LoL lo L w w') := by
  by_cases he : openE D size = 0
  · have hf : fitsN D.V.length size = true := Decidable.byContradiction fun hc => by
      unfold openE at he; rw [if_neg hc] at he; cases he
    have hf2 := of_decide_eq_true hf
    obtain ⟨n, rfl⟩ : ∃ n : Nat, size = n := ⟨size.toNat, by omega⟩
    refine (openYes h n he (short_of ha.short (by omega))).to ?_
    rintro v w' ⟨ok, D2, C, s, S, hok, hD2, rfl, rfl, rfl, hLL, hh⟩
    rw [(save_alive ha _ _).1] at hok
    subst hok
    rcases hh with ⟨e, _⟩ | ⟨_, x, pa, ca, rfl, _, hG⟩
    · cases e
    · subst hD2
      obtain ⟨C, hz, hG2, hni⟩ := lg_out2 hG
      rw [Int.toNat_natCast]
      exact ⟨⟨_, pa, _, ca, 0, _, C ++ L, rfl, he.symm, hG2.fst, fun b hb => List.mem_append_right _ hb, .inr ⟨rfl, x, rfl, rfl, ⟨C, hz, rfl, hni⟩, rfl, hG2⟩⟩, hLL⟩
  · refine (openNo h size hs he).to fun v w' ⟨hv, hb⟩ => ⟨⟨none, none, 0, 0, _, D, L, hv, rfl, h.new hb, fun b hb => hb, .inl ⟨he, rfl, rfl, rfl, rfl⟩⟩, LoL.of_below hb⟩
set_option maxRecDepth 20000 in
theorem walOpens0 (many size : Int) (hm : many < 1) (p : Option Addr) (n cp : Nat) (w : World) :
    Calls Tryz.prog 3 [.int .i64 many, .int .i64 size, .slice p n cp].toArray w (Ret fun v w' => v = .bool true ∧ Below w.heap.size w w') := by
  have hB := Below.refl w.heap.size w
  have hN := fun w' => new11b (w := w') many (.inl hm)
  refine calls_W (fn := Tryz.f3) (rs := [.tmp 6]) (n := 213) Tryz.func3 rfl rfl Tryz.ntmps3 (by kernel_rfl) rfl ?_
  refine W_seq ?_
  refine W_region ?_
  refine WR_val rfl (rn_assign) ?_
  refine WR_nil ?_
  refine thenN ?_
  refine W_seq ?_
  refine W_seq ?_
  refine W_region ?_
  refine WR_val rfl (rn_move) ?_
  refine WR_val rfl (rn_gtr rfl rfl) ?_
  refine WR_val rfl (rn_move) ?_
  refine WR_fp 21 rfl ((by omega)) ?_
  refine WR_yes rfl ?_
  refine WR_val rfl (rn_move) ?_
  refine WR_yes rfl ?_
  refine WR_val rfl (rn_lenSl (e := 88) (sz := 137) (by kernel_rfl) rfl rfl) ?_
  refine WR_yes rfl ?_
  refine WR_val rfl (rn_gtr rfl rfl) ?_
  refine WR_val rfl (rn_pick_f rfl) ?_
  refine WR_nil ?_
  refine thenN ?_
  refine W_ifp rfl (fun h60 => ?_) (fun h60 => ?_)
  ·
    refine W_seq ?_
    refine W_region ?_
    refine WR_ent rfl (rn_call (by kernel_rfl) rfl) (known7 w) ?_
    rintro _ w26 ⟨rfl, hb26⟩
    replace hB := hB.acc hb26
    refine WR_val rfl (rn_assign) ?_
    refine WR_nil ?_
    refine thenN ?_
    refine W_ret ?_
    refine thenR ?_
    refine ret_ret [_] ⟨rfl, trivial⟩ ?_
    exact ⟨rfl, hB⟩
  ·
    refine W_skip ?_
    refine thenN ?_
    refine W_seq ?_
    refine W_region ?_
    refine WR_val rfl (rn_move) ?_
    refine WR_ent rfl (rn_call (by kernel_rfl) rfl) (hN w) ?_
    rintro _ _ ⟨rfl, rfl⟩
    refine WR_val rfl (rn_move) ?_
    refine WR_val rfl (rn_extract rfl rfl) ?_
    refine WR_val rfl (rn_extract rfl rfl) ?_
    refine WR_val rfl (rn_assign) ?_
    refine WR_val rfl (rn_assign) ?_
    refine WR_nil ?_
    refine thenN ?_
    refine W_seq ?_
    refine W_seq ?_
    refine W_region ?_
    refine WR_val rfl (rn_move) ?_
    refine WR_val rfl (rn_neq rfl rfl) ?_
    refine WR_nil ?_
    refine thenN ?_
    refine W_tp rfl ((by decide)) ?_
    refine W_seq ?_
    refine W_region ?_
    refine WR_val rfl (rn_move) ?_
    refine WR_val rfl (rn_move) ?_
    refine WR_ent rfl (rn_call (by kernel_rfl) rfl) (n24 (.inl rfl) size) ?_
    rintro _ _ ⟨rfl, rfl⟩
    refine WR_val rfl (rn_move) ?_
    refine WR_val rfl (rn_extract rfl rfl) ?_
    refine WR_val rfl (rn_extract rfl rfl) ?_
    refine WR_val rfl (rn_extract rfl rfl) ?_
    refine WR_val rfl (rn_assign) ?_
    refine WR_val rfl (rn_assign) ?_
    refine WR_val rfl (rn_assign) ?_
    refine WR_nil ?_
    refine thenN ?_
    refine W_seq ?_
    refine W_region ?_
    refine WR_val rfl (rn_move) ?_
    refine WR_val rfl (rn_eql rfl rfl) ?_
    refine WR_val rfl (rn_move) ?_
    refine WR_tp 43 rfl (rfl) ?_
    refine WR_yes rfl ?_
    refine WR_ent rfl (rn_call (by kernel_rfl) rfl) (known7 w) ?_
    rintro _ w44 ⟨rfl, hb44⟩
    replace hB := hB.acc hb44
    refine WR_val rfl (rn_pick_t rfl) ?_
    refine WR_val rfl (rn_assign) ?_
    refine WR_nil ?_
    refine thenN ?_
    refine W_ret ?_
    refine thenR ?_
    refine ret_ret [_] ⟨rfl, trivial⟩ ?_
    exact ⟨rfl, hB⟩
set_option maxRecDepth 20000 in
set_option maxHeartbeats 4000000 in
theorem walOpensC (many size : Int) (p : Option Addr) (n cp : Nat) (R : List CellT) (w : World) (ws : wf64 size) (hR : ElsAt (CeQ w) w 137 p n R) :
    Calls Tryz.prog 3 [.int .i64 many, .int .i64 size, .slice p n cp].toArray w (Ret fun v w' => v = .bool true ∧ Below w.heap.size w w') := by
  by_cases hm1 : many < 1
  · exact walOpens0 many size hm1 p n cp w
  have hB := Below.refl w.heap.size w
  have hml : maxLen = 9223372036854775807 := by decide
  refine calls_W (fn := Tryz.f3) (rs := [.tmp 6]) (n := 213) Tryz.func3 rfl rfl Tryz.ntmps3 (by kernel_rfl) rfl ?_
  refine W_seq ?_
  refine W_region ?_
  refine WR_val rfl (rn_assign) ?_
  refine WR_nil ?_
  refine thenN ?_
  refine W_seq ?_
  refine W_seq ?_
  refine W_region ?_
  refine WR_val rfl (rn_move) ?_
  refine WR_val rfl (rn_gtr rfl rfl) ?_
  refine WR_val rfl (rn_move) ?_
  refine WR_part 21 rfl (fun h80 => ?_) (fun h80 => ?_)
  ·
    refine WR_no rfl rfl ?_
    refine WR_no rfl rfl ?_
    refine WR_no rfl rfl ?_
    refine WR_val rfl (rn_pick_t rfl) ?_
    refine WR_nil ?_
    refine thenN ?_
    refine W_tb rfl (rfl) ?_
    refine W_seq ?_
    refine W_region ?_
    refine WR_ent rfl (rn_call (by kernel_rfl) rfl) (known7 w) ?_
    rintro _ w26 ⟨rfl, hb26⟩
    replace hB := hB.acc hb26
    refine WR_val rfl (rn_assign) ?_
    refine WR_nil ?_
    refine thenN ?_
    refine W_ret ?_
    refine thenR ?_
    refine ret_ret [_] ⟨rfl, trivial⟩ ?_
    exact ⟨rfl, hB⟩
  ·
    refine WR_yes rfl ?_
    refine WR_val rfl (rn_move) ?_
    refine WR_yes rfl ?_
    refine WR_val rfl (rn_lenSl (e := 88) (sz := 137) (by kernel_rfl) rfl rfl) ?_
    refine WR_yes rfl ?_
    refine WR_val rfl (rn_gtr rfl rfl) ?_
    refine WR_val rfl (rn_pick_f rfl) ?_
    refine WR_nil ?_
    refine thenN ?_
    refine W_ifp rfl (fun h60 => ?_) (fun h60 => ?_)
    ·
      refine W_seq ?_
      refine W_region ?_
      refine WR_ent rfl (rn_call (by kernel_rfl) rfl) (known7 w) ?_
      rintro _ w26 ⟨rfl, hb26⟩
      replace hB := hB.acc hb26
      refine WR_val rfl (rn_assign) ?_
      refine WR_nil ?_
      refine thenN ?_
      refine W_ret ?_
      refine thenR ?_
      refine ret_ret [_] ⟨rfl, trivial⟩ ?_
      exact ⟨rfl, hB⟩
    ·
      have hobt : ∃ m : Nat, many = m := ⟨many.toNat, by omega⟩
      obtain ⟨m, rfl⟩ := hobt
      have hN := fun w' => newC (w := w') m (by omega) (by omega)
      have hft := fun w' => rfitsZ (m : Int) size w' ⟨by omega, by omega⟩ ws
      refine W_skip ?_
      refine thenN ?_
      refine W_seq ?_
      refine W_region ?_
      refine WR_val rfl (rn_move) ?_
      have hB_0 := hB
      refine WR_ent rfl (rn_call (by kernel_rfl) rfl) (hN w) ?_
      rintro _ w29 ⟨g, B, rfl, hX, hBlo, hb29⟩
      replace hB := hB.acc hb29
      have hD : Two (DZ g (newD m)) None w.heap.size [] w29 := Two.one hX (fun b hb => ⟨Nat.le_trans hB_0.size (hBlo b hb), by simp⟩) hB.size (by simp)
      refine WR_val rfl (rn_move) ?_
      refine WR_val rfl (rn_extract rfl rfl) ?_
      refine WR_val rfl (rn_extract rfl rfl) ?_
      refine WR_val rfl (rn_assign) ?_
      refine WR_val rfl (rn_assign) ?_
      refine WR_nil ?_
      refine thenN ?_
      refine W_seq ?_
      refine W_seq ?_
      refine W_region ?_
      refine WR_val rfl (rn_move) ?_
      refine WR_val rfl (rn_neq rfl rfl) ?_
      refine WR_nil ?_
      refine thenN ?_
      refine W_fp rfl ((by omega)) ?_
      refine W_skip ?_
      refine thenN ?_
      refine W_seq ?_
      refine W_region ?_
      refine WR_val rfl (rn_move) ?_
      refine WR_val rfl (rn_move) ?_
      have hwr := write30 hD (k0 := 1) (by omega) (alive_new (n := m) (by omega)) p n cp R (by omega) hR hB
      refine WR_ent rfl (rn_call (by kernel_rfl) rfl) (hwr) ?_
      rintro _ w48 ⟨⟨D1, ha1, hl1, hD⟩, hb48⟩
      replace hB := belLL hB hb48 (by omega)
      rw [newD_len] at hl1
      refine WR_nil ?_
      refine thenN ?_
      refine W_seq ?_
      refine W_region ?_
      refine WR_val rfl (rn_move) ?_
      refine WR_val rfl (rn_move) ?_
      have hDk1 := (tOk hD).1
      have hBs := hB.size
      refine WR_ent rfl (rn_call (by kernel_rfl) rfl) (sectors31 hD m (by omega) (by omega)) ?_
      rintro _ w51 ⟨hu, hb51⟩
      obtain ⟨ga, oa, ca, rfl, hga1, hga2, hca⟩ := hu.form' (by omega)
      replace hD := hD.newc hb51 hga1 hga2
      have hown : OwnG _ w.heap.size 45 128 ga oa m ca _ := hu.mono hBs
      replace hB := hB.acc hb51
      refine WR_val rfl (rn_assign) ?_
      refine WR_nil ?_
      refine thenN ?_
      refine W_seq ?_
      refine W_region ?_
      refine WR_val rfl (rn_move) ?_
      refine WR_val rfl (rn_move) ?_
      refine WR_ent rfl (rn_call (by kernel_rfl) rfl) (openAny hD ha1 (by omega) size ws) ?_
      rintro _ w55 ⟨⟨vx, pa, ka, cx, e, D2, L2, rfl, hee, hD2, hsub, hcase⟩, hb55⟩
      replace hown := hown.kpd hb55.kp (by first | (refine notLL ?_; left; omega) | (refine notLL ?_; right; simp; done) | (intro b o e; cases e; first | (refine notLL ?_; left; omega) | (refine notLL ?_; right; simp; done) | (refine notLL ?_; right; simp [*]; done)) | (intro b hb; refine notLL ?_; left; omega) | (intro b hb e; cases e; exact notLL (by right; simp [*]) hb))
      replace hB := belLL hB hb55 (by omega)
      refine WR_val rfl (rn_move) ?_
      refine WR_val rfl (rn_extract rfl rfl) ?_
      refine WR_val rfl (rn_extract rfl rfl) ?_
      refine WR_val rfl (rn_extract rfl rfl) ?_
      refine WR_val rfl (rn_assign) ?_
      refine WR_val rfl (rn_assign) ?_
      refine WR_val rfl (rn_assign) ?_
      refine WR_nil ?_
      refine thenN ?_
      refine W_seq ?_
      refine W_seq ?_
      refine W_region ?_
      refine WR_val rfl (rn_move) ?_
      refine WR_val rfl (rn_move) ?_
      refine WR_ent rfl (rn_call (by kernel_rfl) rfl) (hft w55) ?_
      rintro _ _ ⟨rfl, rfl⟩
      refine WR_val rfl (rn_not rfl) ?_
      refine WR_nil ?_
      refine thenN ?_
      refine W_ifnb rfl (fun hnf => ?_) (fun hnf => ?_)
      ·
        refine W_seq ?_
        have hfz : fitZ (m : Int) size = false := by cases hx : fitZ (m : Int) size with | false => rfl | true => rw [hx] at hnf; cases hnf
        have hfn : fitsN m size = false := by
          cases hx : fitsN m size with
          | false => rfl
          | true =>
            have := of_decide_eq_true hx
            rw [show fitZ (m : Int) size = true from decide_eq_true ⟨this.1, this.2.1, by omega⟩] at hfz; cases hfz
        have hE : openE D1 size = 2 := by rw [openE, hl1, hfn, if_neg (by simp)]
        have hcs : e = 2 ∧ vx = none ∧ ka = 0 ∧ D2 = D1 ∧ L2 = [ga] := hcase.elim (fun h => ⟨hee.trans hE, h.2.1, h.2.2.1, h.2.2.2.1, h.2.2.2.2⟩) fun h => by rw [hee, hE] at h; cases h.1
        obtain ⟨rfl, rfl, rfl, rfl, rfl⟩ := hcs
        refine W_region ?_
        refine WR_val rfl (rn_move) ?_
        refine WR_val rfl (rn_eqlP0 (by kernel_rfl) rfl rfl) ?_
        refine WR_val rfl (rn_move) ?_
        refine WR_tb 65 rfl (rfl) ?_
        refine WR_yes rfl ?_
        refine WR_val rfl (rn_move) ?_
        refine WR_yes rfl ?_
        refine WR_val rfl (rn_lenSl (e := 60) (sz := 1) (by kernel_rfl) rfl rfl) ?_
        refine WR_yes rfl ?_
        refine WR_val rfl (rn_eql rfl rfl) ?_
        refine WR_val rfl (rn_pick_t rfl) ?_
        refine WR_val rfl (rn_move) ?_
        refine WR_tp 70 rfl (rfl) ?_
        refine WR_yes rfl ?_
        refine WR_val rfl (rn_move) ?_
        refine WR_yes rfl ?_
        refine WR_val rfl (rn_eql rfl rfl) ?_
        refine WR_val rfl (rn_pick_t rfl) ?_
        refine WR_val rfl (rn_move) ?_
        refine WR_tp 74 rfl (rfl) ?_
        refine WR_yes rfl ?_
        refine WR_val rfl (rn_move) ?_
        refine WR_yes rfl ?_
        refine WR_val rfl (rn_move) ?_
        refine WR_yes rfl ?_
        have hfm2 := format26 hD2 size ws (ha1.weak (by omega))
        rw [hl1, hfn, if_neg (by simp), if_neg (by simp)] at hfm2
        refine WR_ent rfl (rn_call (by kernel_rfl) rfl) (hfm2) ?_
        rintro _ w77 ⟨rfl, hD2, hb77⟩
        replace hown := hown.kpd hb77.kp (by first | (refine notLL ?_; left; omega) | (refine notLL ?_; right; simp; done) | (intro b o e; cases e; first | (refine notLL ?_; left; omega) | (refine notLL ?_; right; simp; done) | (refine notLL ?_; right; simp [*]; done)) | (intro b hb; refine notLL ?_; left; omega) | (intro b hb e; cases e; exact notLL (by right; simp [*]) hb))
        replace hB := belLL hB hb77 (by omega)
        refine WR_yes rfl ?_
        refine WR_val rfl (rn_eql rfl rfl) ?_
        refine WR_val rfl (rn_pick_t rfl) ?_
        refine WR_val rfl (rn_move) ?_
        refine WR_tp 80 rfl (rfl) ?_
        refine WR_yes rfl ?_
        refine WR_val rfl (rn_move) ?_
        refine WR_yes rfl ?_
        refine WR_val rfl (rn_move) ?_
        refine WR_yes rfl ?_
        refine WR_ent rfl (rn_call (by kernel_rfl) rfl) (sectors31 hD2 m (by omega) (by omega)) ?_
        rintro _ w83 ⟨hu2, hb83⟩
        replace hown := hown.new hb83
        replace hD2 := hD2.new hb83
        replace hB := hB.acc hb83
        refine WR_yes rfl ?_
        refine WR_val rfl (rn_move) ?_
        refine WR_yes rfl ?_
        have hs2 := hu2.form
        obtain ⟨pu2, cu2, rfl⟩ := hs2
        have hown2 := ownsAt.sl hown
        refine WR_ent rfl (rn_call (by kernel_rfl) rfl) (same33 (secD D2 m) (secD D2 m) (secD_ok hDk1 (by omega)) (secD_ok hDk1 (by omega)) pu2 _ m m cu2 ca w83 hu2.sl hown2 (secD_len _ _) (secD_len _ _) (by omega)) ?_
        rintro _ w85 ⟨⟨bb, rfl, hbb⟩, hb85⟩
        replace hown := hown.new hb85
        replace hD2 := hD2.new hb85
        replace hu2 := hu2.new hb85
        replace hB := hB.acc hb85
        refine WR_val rfl (rn_pick_t rfl) ?_
        refine WR_val rfl (rn_move) ?_
        refine WR_tb 87 rfl ((hbb.2 rfl)) ?_
        refine WR_yes rfl ?_
        refine WR_ent rfl (rn_call (by kernel_rfl) rfl) (known7 w85) ?_
        rintro _ w88 ⟨rfl, hb88⟩
        replace hown := hown.new hb88
        replace hD2 := hD2.new hb88
        replace hu2 := hu2.new hb88
        replace hB := hB.acc hb88
        refine WR_val rfl (rn_pick_t rfl) ?_
        refine WR_val rfl (rn_assign) ?_
        refine WR_nil ?_
        refine thenN ?_
        refine W_ret ?_
        refine thenR ?_
        refine ret_ret [_] ⟨rfl, trivial⟩ ?_
        exact ⟨rfl, hB⟩
      ·
        have hfz : fitZ (m : Int) size = true := hnf
        have hobt := of_decide_eq_true hfz
        obtain ⟨hf1, hf2, hf3⟩ := hobt
        have hobt : ∃ k : Nat, size = k := ⟨size.toNat, by omega⟩
        obtain ⟨k, rfl⟩ := hobt
        have hfn : fitsN m (k : Int) = true := decide_eq_true ⟨by omega, by omega, by omega⟩
        have hso1 := secD_ok hDk1 (n := k + 1) (by omega)
        rw [secD_cons] at hso1
        have hrs := fun w' q => rsays13 (readD D1 0) (secL D1 k) hso1 k (secL_len D1 k) (by omega) q (k + 1) ca rfl (by omega) w'
        rw [← logB_eq] at hrs
        have hsub1 : ∀ w', OwnG w' w.heap.size 45 128 ga oa m ca (bv (secD D1 m).flatten) → SlAt w' (some ⟨ga, oa, none⟩) (k + 1) 128 (bv (readD D1 0 :: secL D1 k).flatten) := fun w' ho => by
          have h1 := (ownsAt.sl ho).sub 0 (k + 1) (by omega)
          rw [Nat.zero_mul, Nat.add_zero, List.drop_zero, ← bv_take, show (k + 1) * 128 = 128 * (k + 1) by omega, ← (flat_take (secD_ok hDk1 (by omega)) (k + 1)).1, secD_take D1 (by omega), secD_cons] at h1
          exact h1
        have hE : openE D1 (k : Int) = if hdIs (readD D1 0) then (if hdC (readD D1 0) = 4611686018427387904 then 8 else 0) else 6 := by rw [openE, hl1, hfn, if_pos rfl]
        have hHG : headG D1 (k : Int) = ⟨hdC (readD D1 0), hdS (readD D1 0), k, 0, 0, false⟩ := by rw [headG, Int.toNat_natCast]
        have hRec : recsOf D1 (headG D1 (k : Int)) = recsL (hdS (readD D1 0)) (hdC (readD D1 0)) 0 (rowsL k (logB D1 k) k) := by rw [recsOf, hHG]
        rw [← hRec] at hrs
        have hrf := recs_fit (s := hdS (readD D1 0)) (c := hdC (readD D1 0)) k 0 k (X := logB D1 k) (by rw [logB_len hDk1 (by omega)]; omega) (Nat.le_refl _)
        have hrl := recs_num (s := hdS (readD D1 0)) (c := hdC (readD D1 0)) k 0 k (X := logB D1 k) (by rw [logB_len hDk1 (by omega)]; omega) (Nat.le_refl _)
        have hrk := recs_ok (s := hdS (readD D1 0)) (c := hdC (readD D1 0)) k 0 k (X := logB D1 k)
        rw [← hRec] at hrf hrk hrl
        have hsv := save_alive ha1 (hdC (readD D1 0) + 1) (hdS (readD D1 0))
        have hhd1 := fun (h : hdIs (readD D1 0) = true) => h
        have hc64 : hdC (readD D1 0) < 18446744073709551616 := numB_lt_of _ 8 (by simp; omega)
        have hs64 : hdS (readD D1 0) < 18446744073709551616 := numB_lt_of _ 8 (by simp; omega)
        have hB5 := Below.refl w55.heap.size w55
        refine W_skip ?_
        refine thenN ?_
        refine W_seq ?_
        refine W_region ?_
        refine WR_val rfl (rn_move) ?_
        refine WR_val rfl (rn_move) ?_
        refine WR_val rfl (rn_add rfl rfl (Coup.w64 (by omega))) ?_
        refine WR_val rfl (rn_sliceUp (e := 45) (sz := 128) ((k + 1)) (by kernel_rfl) rfl ⟨_, _, rfl, by omega⟩ (by omega)) ?_
        refine WR_ent rfl (rn_call (by kernel_rfl) rfl) (hrs w55 _ (hsub1 _ hown)) ?_
        rintro _ w95 ⟨⟨vy, ey, rfl, hsays⟩, hb95⟩
        replace hown := hown.new hb95
        replace hD2 := hD2.new hb95
        replace hB := hB.acc hb95
        replace hB5 := hB5.acc hb95
        refine WR_val rfl (rn_move) ?_
        refine WR_val rfl (rn_extract rfl rfl) ?_
        refine WR_val rfl (rn_extract rfl rfl) ?_
        refine WR_val rfl (rn_assign) ?_
        refine WR_val rfl (rn_assign) ?_
        refine WR_nil ?_
        refine thenN ?_
        refine W_seq ?_
        refine W_seq ?_
        refine W_region ?_
        refine WR_val rfl (rn_move) ?_
        refine WR_val rfl (rn_not rfl) ?_
        refine WR_val rfl (rn_move) ?_
        refine WR_partnb 100 rfl (fun hny => ?_) (fun hny => ?_)
        ·
          refine WR_no rfl rfl ?_
          refine WR_no rfl rfl ?_
          refine WR_no rfl rfl ?_
          refine WR_no rfl rfl ?_
          refine WR_no rfl rfl ?_
          refine WR_val rfl (rn_pick_t rfl) ?_
          refine WR_nil ?_
          refine thenN ?_
          refine W_t rfl ?_
          refine W_seq ?_
          have hey : hdIs (readD D1 0) = false := hsays.elim (fun h => h.2.1) fun h => by rw [h.1] at hny; cases hny
          rw [hey] at hE
          have hcs : e = 6 ∧ vx = none ∧ ka = 0 ∧ D2 = D1 ∧ L2 = [ga] := hcase.elim (fun h => ⟨hee.trans hE, h.2.1, h.2.2.1, h.2.2.2.1, h.2.2.2.2⟩) fun h => by rw [hee, hE] at h; exact absurd h.1 (by simp)
          obtain ⟨rfl, rfl, rfl, rfl, rfl⟩ := hcs
          refine W_region ?_
          refine WR_val rfl (rn_assign) ?_
          refine WR_nil ?_
          refine thenN ?_
          refine W_seq ?_
          refine W_seq ?_
          refine W_region ?_
          refine WR_val rfl (rn_move) ?_
          refine WR_nil ?_
          refine thenN ?_
          refine W_fb rfl (hny) ?_
          refine W_skip ?_
          refine thenN ?_
          refine W_seq ?_
          refine W_region ?_
          refine WR_val rfl (rn_move) ?_
          refine WR_val rfl (rn_eqlP0 (by kernel_rfl) rfl rfl) ?_
          refine WR_val rfl (rn_move) ?_
          refine WR_tb 110 rfl (rfl) ?_
          refine WR_yes rfl ?_
          refine WR_val rfl (rn_move) ?_
          refine WR_yes rfl ?_
          refine WR_val rfl (rn_lenSl (e := 60) (sz := 1) (by kernel_rfl) rfl rfl) ?_
          refine WR_yes rfl ?_
          refine WR_val rfl (rn_eql rfl rfl) ?_
          refine WR_val rfl (rn_pick_t rfl) ?_
          refine WR_val rfl (rn_move) ?_
          refine WR_tp 115 rfl (rfl) ?_
          refine WR_yes rfl ?_
          refine WR_val rfl (rn_move) ?_
          refine WR_yes rfl ?_
          refine WR_val rfl (rn_move) ?_
          refine WR_yes rfl ?_
          refine WR_val rfl (rn_eql rfl rfl) ?_
          refine WR_val rfl (rn_pick_t rfl) ?_
          refine WR_val rfl (rn_move) ?_
          refine WR_tp 120 rfl (rfl) ?_
          refine WR_yes rfl ?_
          refine WR_val rfl (rn_move) ?_
          refine WR_yes rfl ?_
          refine WR_val rfl (rn_move) ?_
          refine WR_yes rfl ?_
          refine WR_ent rfl (rn_call (by kernel_rfl) rfl) (sectors31 hD2 m (by omega) (by omega)) ?_
          rintro _ w123 ⟨hu2, hb123⟩
          replace hown := hown.new hb123
          replace hD2 := hD2.new hb123
          replace hB := hB.acc hb123
          replace hB5 := hB5.acc hb123
          refine WR_yes rfl ?_
          refine WR_val rfl (rn_move) ?_
          refine WR_yes rfl ?_
          have hs2 := hu2.form
          obtain ⟨pu2, cu2, rfl⟩ := hs2
          have hown2 := ownsAt.sl hown
          refine WR_ent rfl (rn_call (by kernel_rfl) rfl) (same33 (secD D2 m) (secD D2 m) (secD_ok hDk1 (by omega)) (secD_ok hDk1 (by omega)) pu2 _ m m cu2 ca w123 hu2.sl hown2 (secD_len _ _) (secD_len _ _) (by omega)) ?_
          rintro _ w125 ⟨⟨bb, rfl, hbb⟩, hb125⟩
          replace hown := hown.new hb125
          replace hD2 := hD2.new hb125
          replace hu2 := hu2.new hb125
          replace hB := hB.acc hb125
          replace hB5 := hB5.acc hb125
          refine WR_val rfl (rn_pick_t rfl) ?_
          refine WR_val rfl (rn_move) ?_
          refine WR_tb 127 rfl ((hbb.2 rfl)) ?_
          refine WR_yes rfl ?_
          refine WR_ent rfl (rn_call (by kernel_rfl) rfl) (known7 w125) ?_
          rintro _ w128 ⟨rfl, hb128⟩
          replace hown := hown.new hb128
          replace hD2 := hD2.new hb128
          replace hu2 := hu2.new hb128
          replace hB := hB.acc hb128
          replace hB5 := hB5.acc hb128
          refine WR_val rfl (rn_pick_t rfl) ?_
          refine WR_val rfl (rn_assign) ?_
          refine WR_nil ?_
          refine thenN ?_
          refine W_ret ?_
          refine thenR ?_
          refine ret_ret [_] ⟨rfl, trivial⟩ ?_
          exact ⟨rfl, hB⟩
        ·
          have hobt := hsays.resolve_left (fun h => by rw [h.1] at hny; cases hny)
          obtain ⟨hey, hdi, y, pr, cr, rfl, hsa⟩ := hobt
          have hy := hsa.row
          have hz2 := hsa.all
          have hyC := List.mem_range'_1.1 hsa.inC
          unfold rlV at hy
          rw [hdi, if_pos rfl] at hE
          refine WR_yes rfl ?_
          refine WR_val rfl (rn_move) ?_
          refine WR_yes rfl ?_
          refine WR_val rfl (rn_nilCheckP rfl) ?_
          refine WR_yes rfl ?_
          refine WR_val rfl (rn_fieldAddr (off := 0) (by kernel_rfl) rfl) ?_
          refine WR_yes rfl ?_
          refine WR_val rfl (rn_load rfl (Ld.row1 hy (by kernel_rfl) rfl)) ?_
          refine WR_yes rfl ?_
          refine WR_val rfl (rn_eql rfl rfl) ?_
          refine WR_val rfl (rn_pick_f rfl) ?_
          refine WR_nil ?_
          refine thenN ?_
          refine W_ifp rfl (fun hmx => ?_) (fun hmx => ?_)
          ·
            refine W_seq ?_
            rw [if_pos (by omega)] at hE
            have hcs : e = 8 ∧ vx = none ∧ ka = 0 ∧ D2 = D1 ∧ L2 = [ga] := hcase.elim (fun h => ⟨hee.trans hE, h.2.1, h.2.2.1, h.2.2.2.1, h.2.2.2.2⟩) fun h => by rw [hee, hE] at h; exact absurd h.1 (by simp)
            obtain ⟨rfl, rfl, rfl, rfl, rfl⟩ := hcs
            refine W_region ?_
            refine WR_val rfl (rn_assign) ?_
            refine WR_nil ?_
            refine thenN ?_
            refine W_seq ?_
            refine W_seq ?_
            refine W_region ?_
            refine WR_val rfl (rn_move) ?_
            refine WR_nil ?_
            refine thenN ?_
            refine W_tb rfl (hny) ?_
            refine W_region ?_
            refine WR_val rfl (rn_assign) ?_
            refine WR_nil ?_
            refine thenN ?_
            refine W_seq ?_
            refine W_region ?_
            refine WR_val rfl (rn_move) ?_
            refine WR_val rfl (rn_eqlP0 (by kernel_rfl) rfl rfl) ?_
            refine WR_val rfl (rn_move) ?_
            refine WR_tb 110 rfl (rfl) ?_
            refine WR_yes rfl ?_
            refine WR_val rfl (rn_move) ?_
            refine WR_yes rfl ?_
            refine WR_val rfl (rn_lenSl (e := 60) (sz := 1) (by kernel_rfl) rfl rfl) ?_
            refine WR_yes rfl ?_
            refine WR_val rfl (rn_eql rfl rfl) ?_
            refine WR_val rfl (rn_pick_t rfl) ?_
            refine WR_val rfl (rn_move) ?_
            refine WR_tp 115 rfl (rfl) ?_
            refine WR_yes rfl ?_
            refine WR_val rfl (rn_move) ?_
            refine WR_yes rfl ?_
            refine WR_val rfl (rn_move) ?_
            refine WR_yes rfl ?_
            refine WR_val rfl (rn_eql rfl rfl) ?_
            refine WR_val rfl (rn_pick_t rfl) ?_
            refine WR_val rfl (rn_move) ?_
            refine WR_tp 120 rfl (rfl) ?_
            refine WR_yes rfl ?_
            refine WR_val rfl (rn_move) ?_
            refine WR_yes rfl ?_
            refine WR_val rfl (rn_move) ?_
            refine WR_yes rfl ?_
            refine WR_ent rfl (rn_call (by kernel_rfl) rfl) (sectors31 hD2 m (by omega) (by omega)) ?_
            rintro _ w123 ⟨hu2, hb123⟩
            replace hown := hown.new hb123
            replace hD2 := hD2.new hb123
            replace hy := hy.new hb123
            replace hB := hB.acc hb123
            replace hB5 := hB5.acc hb123
            refine WR_yes rfl ?_
            refine WR_val rfl (rn_move) ?_
            refine WR_yes rfl ?_
            have hs2 := hu2.form
            obtain ⟨pu2, cu2, rfl⟩ := hs2
            have hown2 := ownsAt.sl hown
            refine WR_ent rfl (rn_call (by kernel_rfl) rfl) (same33 (secD D2 m) (secD D2 m) (secD_ok hDk1 (by omega)) (secD_ok hDk1 (by omega)) pu2 _ m m cu2 ca w123 hu2.sl hown2 (secD_len _ _) (secD_len _ _) (by omega)) ?_
            rintro _ w125 ⟨⟨bb, rfl, hbb⟩, hb125⟩
            replace hown := hown.new hb125
            replace hD2 := hD2.new hb125
            replace hy := hy.new hb125
            replace hu2 := hu2.new hb125
            replace hB := hB.acc hb125
            replace hB5 := hB5.acc hb125
            refine WR_val rfl (rn_pick_t rfl) ?_
            refine WR_val rfl (rn_move) ?_
            refine WR_tb 127 rfl ((hbb.2 rfl)) ?_
            refine WR_yes rfl ?_
            refine WR_ent rfl (rn_call (by kernel_rfl) rfl) (known7 w125) ?_
            rintro _ w128 ⟨rfl, hb128⟩
            replace hown := hown.new hb128
            replace hD2 := hD2.new hb128
            replace hy := hy.new hb128
            replace hu2 := hu2.new hb128
            replace hB := hB.acc hb128
            replace hB5 := hB5.acc hb128
            refine WR_val rfl (rn_pick_t rfl) ?_
            refine WR_val rfl (rn_assign) ?_
            refine WR_nil ?_
            refine thenN ?_
            refine W_ret ?_
            refine thenR ?_
            refine ret_ret [_] ⟨rfl, trivial⟩ ?_
            exact ⟨rfl, hB⟩
          ·
            rw [if_neg (by omega)] at hE
            have hi2 := hdi
            rw [hdIs, Bool.and_eq_true, Bool.and_eq_true, Bool.and_eq_true] at hi2
            have hcm := of_decide_eq_true hi2.2
            clear hi2
            have hobt := (hcase.resolve_left (fun h => h.1 (hee.trans hE)))
            obtain ⟨he0, x, rfl, hka, ⟨C1, hz1, rfl, hni1⟩, hD2e, hG⟩ := hobt
            subst he0
            have hobt : ∃ S, recsOf D1 (headG D1 (k : Int)) = S := ⟨_, rfl⟩
            obtain ⟨S, hS⟩ := hobt
            have hobt : ∃ Cn, hdC (readD D1 0) = Cn := ⟨_, rfl⟩
            obtain ⟨Cn, hCn⟩ := hobt
            have hobt : ∃ Sn, hdS (readD D1 0) = Sn := ⟨_, rfl⟩
            obtain ⟨Sn, hSn⟩ := hobt
            rw [hS] at hrf hrk hrl hz1 hz2 hG hy hka
            have hyg : y ≠ ga := by have := hb55.size; omega
            rw [hCn, hSn] at hy hG hsv hD2e
            rw [hCn] at hc64 hcm
            rw [hSn] at hs64
            rw [← hD2e] at hsv
            obtain ⟨_, ha2, hl2, hrd2⟩ := hsv
            have hhd := fun w' => rhead28 (Cn + 1) Sn (by omega) hs64 w'
            have hhl := headB_len (Cn + 1) Sn
            have hfin := secD_head (D := D1) (D' := D2) (m := m) (by omega) (by rw [hl1] at hrd2; exact hrd2)
            have hobt : ∃ H, headB (Cn + 1) Sn = H := ⟨_, rfl⟩
            obtain ⟨H, hH⟩ := hobt
            rw [hH] at hhd hhl hfin
            have hhb : (bv H).length = 128 := by rw [bv_length]; exact hhl
            have hfl1 := flat_len (secD_ok hDk1 (n := m) (by omega))
            rw [secD_len] at hfl1
            replace hG := hG.new hB5
            replace hz1 := Thing.kpd (M := []) hz1 (Kp.of_below hB5) (by simp)
            have hK := KpB.refl [ga] w95
            have hx0 := hG.lt
            refine W_skip ?_
            refine thenN ?_
            refine W_seq ?_
            refine W_draw' [ga] (by kernel_rfl) ?_
            intro w901 hb901 hS901
            replace hown := hown.new hb901
            replace hy := hy.new hb901
            replace hG := hG.new hb901
            replace hK := hK.new hb901
            replace hB := hB.acc hb901
            have hown_d901 := hown
            have hy_d901 := hy
            have hG_d901 := hG
            have hK_d901 := hK
            have hB_d901 := hB
            refine WA_take 0 (by kernel_rfl) rfl (fun _ _ => rn_move) ?_
            refine WA_take 1 (by kernel_rfl) rfl (fun _ _ => rn_move) ?_
            refine WA_take 2 (by kernel_rfl) rfl (fun _ _ => rn_nilCheckP rfl) ?_
            refine WA_take 3 (by kernel_rfl) rfl (fun _ _ => rn_fieldAddr (off := 0) (by kernel_rfl) rfl) ?_
            refine WA_take 4 (by kernel_rfl) rfl (fun w' hS' => rn_load rfl (Ld.row1 (hy_d901.kpd hS' (by first | (simp; done) | (simp; omega) | (simp [*]; done) | exact notLL (Or.inl (by omega)) | exact notLL (Or.inr (by simp)) | exact fun g hm => Nat.le_trans (by omega) (inLL hm).1 | (intro b o e; cases e; exact notLL (Or.inl (by omega))) | (intro b hm; have := (hu.lt b (Option.mem_toList.1 hm)).1; omega) | (intro b o e; cases e; intro hm; have := (hu.lt _ (Option.mem_toList.1 hm)).1; omega))) (by kernel_rfl) rfl)) ?_
            refine WA_take 5 (by kernel_rfl) rfl (fun _ _ => rn_add rfl rfl (wu64 (by omega))) ?_
            refine WA_take 6 (by kernel_rfl) rfl (fun _ _ => rn_move) ?_
            refine WA_take 7 (by kernel_rfl) rfl (fun _ _ => rn_nilCheckP rfl) ?_
            refine WA_take 8 (by kernel_rfl) rfl (fun _ _ => rn_fieldAddr (off := 1) (by kernel_rfl) rfl) ?_
            refine WA_take 9 (by kernel_rfl) rfl (fun w' hS' => rn_load rfl (Ld.row1 (hy_d901.kpd hS' (by first | (simp; done) | (simp; omega) | (simp [*]; done) | exact notLL (Or.inl (by omega)) | exact notLL (Or.inr (by simp)) | exact fun g hm => Nat.le_trans (by omega) (inLL hm).1 | (intro b o e; cases e; exact notLL (Or.inl (by omega))) | (intro b hm; have := (hu.lt b (Option.mem_toList.1 hm)).1; omega) | (intro b o e; cases e; intro hm; have := (hu.lt _ (Option.mem_toList.1 hm)).1; omega))) (by kernel_rfl) rfl)) ?_
            refine WA_one 10 (by kernel_rfl) ?_
            refine WO_ent rfl rfl (rn_call (by kernel_rfl) rfl) (hhd w901) ?_
            rintro _ w140 ⟨rfl, hb140⟩
            have hS902 := hS901.add0 hb140
            refine ⟨hS902, ?_⟩
            replace hown := hown.new hb140
            replace hy := hy.new hb140
            replace hG := hG.new hb140
            replace hK := hK.new hb140
            replace hB := hB.acc hb140
            refine WA_take 11 (by kernel_rfl) rfl (fun _ _ => rn_indexSl (e := 45) (sz := 128) (by kernel_rfl) rfl rfl (0) (by omega) (by omega)) ?_
            refine WA_one 12 (by kernel_rfl) ?_
            refine WO_sk rfl rfl (sk_storeO (bv H) (0 * 128) hown rfl rfl (by rw [hhb]; kernel_rfl) (by simp only [bv_length]; omega) (bv_one _) (fun w904 hown ho904 => ?_))
            have hS903 := hS902.add1 ho904 (by first | (left; omega) | (right; simp; done) | (right; simp; omega))
            refine ⟨hS903, ?_⟩
            replace hy := hy.only ho904 (by omega)
            replace hG := hG.only ho904 (by first | (right; simp; done) | (left; omega))
            replace hK := hK.only ho904 (by simp)
            replace hB := ho904.below hB (by omega)
            refine WA_done (by kernel_rfl) ?_
            refine thenN ?_
            refine W_seq ?_
            refine W_seq ?_
            rw [flat_set (secD_ok hDk1 (by omega)) (by rw [secD_len]; omega) hhl, hfin] at hown
            replace hz1 := Thing.kpd hz1 hK.k (fun b hb hm => hni1 b hb hm)
            replace hz2 := Thing.kpd hz2 hK.k (fun b hb hm => by
              have h1 := List.mem_range'_1.1 hb
              rw [List.mem_singleton.1 hm] at h1
              have := hb55.size
              omega)
            have har1 := AllZ.r hz1
            have har2 := AllZ.r hz2
            refine W_region ?_
            refine WR_val rfl (rn_move) ?_
            refine WR_val rfl (rn_neq rfl rfl) ?_
            refine WR_val rfl (rn_move) ?_
            refine WR_fp 144 rfl ((by omega)) ?_
            refine WR_yes rfl ?_
            refine WR_val rfl (rn_move) ?_
            refine WR_yes rfl ?_
            refine WR_val rfl (rn_eqlP1 (by kernel_rfl) rfl rfl) ?_
            refine WR_val rfl (rn_pick_f rfl) ?_
            refine WR_val rfl (rn_move) ?_
            refine WR_fb 148 rfl (rfl) ?_
            refine WR_yes rfl ?_
            refine WR_val rfl (rn_move) ?_
            refine WR_yes rfl ?_
            refine WR_val rfl (rn_move) ?_
            refine WR_yes rfl ?_
            refine WR_val rfl (rn_nilCheckP rfl) ?_
            refine WR_yes rfl ?_
            refine WR_val rfl (rn_fieldAddr (off := 3) (by kernel_rfl) rfl) ?_
            refine WR_yes rfl ?_
            refine WR_val rfl (rn_load rfl (Ld.row1 hy (by kernel_rfl) rfl)) ?_
            refine WR_yes rfl ?_
            refine WR_ent rfl (rn_call (by kernel_rfl) rfl) (sameAll37 S S hrk hrk pa pr ka S.length cx cr w904 har1 hka.symm har2 rfl (by omega)) ?_
            rintro _ w154 ⟨⟨bb, rfl, hbb⟩, hb154⟩
            replace hown := hown.new hb154
            replace hy := hy.new hb154
            replace hG := hG.new hb154
            replace har1 := har1.new hb154
            replace har2 := har2.new hb154
            replace hB := hB.acc hb154
            refine WR_yes rfl ?_
            refine WR_val rfl (rn_not rfl) ?_
            refine WR_val rfl (rn_pick_f rfl) ?_
            refine WR_val rfl (rn_move) ?_
            refine WR_fnb 157 rfl ((by rw [hbb.2 rfl])) ?_
            refine WR_yes rfl ?_
            refine WR_val rfl (rn_move) ?_
            refine WR_yes rfl ?_
            refine WR_val rfl (rn_move) ?_
            refine WR_yes rfl ?_
            refine WR_ent rfl (rn_call (by kernel_rfl) rfl) (sectors31 hG.fst m (by omega) (by omega)) ?_
            rintro _ w160 ⟨hu2, hb160⟩
            replace hown := hown.new hb160
            replace hy := hy.new hb160
            replace hG := hG.new hb160
            replace har1 := har1.new hb160
            replace har2 := har2.new hb160
            replace hB := hB.acc hb160
            refine WR_yes rfl ?_
            refine WR_val rfl (rn_move) ?_
            refine WR_yes rfl ?_
            have hs2 := hu2.form
            obtain ⟨pu2, cu2, rfl⟩ := hs2
            have hown2 := ownsAt.sl hown
            have hDk2 := (tOk hG.two).1
            refine WR_ent rfl (rn_call (by kernel_rfl) rfl) (same33 (secD D2 m) (secD D2 m) (secD_ok hDk2 (by omega)) (secD_ok hDk2 (by omega)) pu2 _ m m cu2 ca w160 hu2.sl hown2 (secD_len _ _) (secD_len _ _) (by omega)) ?_
            rintro _ w162 ⟨⟨bb2, rfl, hbb2⟩, hb162⟩
            replace hown := hown.new hb162
            replace hy := hy.new hb162
            replace hG := hG.new hb162
            replace har1 := har1.new hb162
            replace har2 := har2.new hb162
            replace hu2 := hu2.new hb162
            replace hB := hB.acc hb162
            refine WR_yes rfl ?_
            refine WR_val rfl (rn_not rfl) ?_
            refine WR_val rfl (rn_pick_f rfl) ?_
            refine WR_val rfl (rn_move) ?_
            refine WR_fnb 165 rfl ((by rw [hbb2.2 rfl])) ?_
            refine WR_yes rfl ?_
            refine WR_val rfl (rn_move) ?_
            refine WR_yes rfl ?_
            refine WR_ent rfl (rn_call (by kernel_rfl) rfl) (tOpen hG.fst ha2.short) ?_
            rintro _ w167 ⟨⟨po, co, rfl⟩, hb167⟩
            replace hown := hown.new hb167
            replace hy := hy.new hb167
            replace hG := hG.new hb167
            replace har1 := har1.new hb167
            replace har2 := har2.new hb167
            replace hu2 := hu2.new hb167
            replace hB := hB.acc hb167
            refine WR_yes rfl ?_
            refine WR_val rfl (rn_lenSl (e := 3) (sz := 1) (by kernel_rfl) rfl rfl) ?_
            refine WR_yes rfl ?_
            refine WR_val rfl (rn_neq rfl rfl) ?_
            refine WR_val rfl (rn_pick_f rfl) ?_
            refine WR_nil ?_
            refine thenN ?_
            refine W_fp rfl ((by simp)) ?_
            refine W_skip ?_
            refine thenN ?_
            refine W_seq ?_
            refine W_draw' [] (by kernel_rfl) ?_
            intro w905 hb905 hS905
            replace hown := hown.new hb905
            replace hy := hy.new hb905
            replace hG := hG.new hb905
            replace har1 := har1.new hb905
            replace har2 := har2.new hb905
            replace hu2 := hu2.new hb905
            replace hB := hB.acc hb905
            have hown_d905 := hown
            have hy_d905 := hy
            have hG_d905 := hG
            have har1_d905 := har1
            have har2_d905 := har2
            have hu2_d905 := hu2
            have hB_d905 := hB
            refine WA_take 0 (by kernel_rfl) rfl (fun _ _ => rn_move) ?_
            refine WA_call 1 (by kernel_rfl) rfl (fun _ => rn_call (by kernel_rfl) rfl) (fun w' hS' => count20 (hG_d905.kpd hS' (by first | (simp; done) | (simp; omega) | (simp [*]; done) | exact notLL (Or.inl (by omega)) | exact notLL (Or.inr (by simp)) | exact fun g hm => Nat.le_trans (by omega) (inLL hm).1 | (intro b o e; cases e; exact notLL (Or.inl (by omega))) | (intro b hm; have := (hu.lt b (Option.mem_toList.1 hm)).1; omega) | (intro b o e; cases e; intro hm; have := (hu.lt _ (Option.mem_toList.1 hm)).1; omega)))) ?_
            refine WA_take 2 (by kernel_rfl) rfl (fun _ _ => rn_move) ?_
            refine WA_take 3 (by kernel_rfl) rfl (fun _ _ => rn_nilCheckP rfl) ?_
            refine WA_take 4 (by kernel_rfl) rfl (fun _ _ => rn_fieldAddr (off := 0) (by kernel_rfl) rfl) ?_
            refine WA_take 5 (by kernel_rfl) rfl (fun w' hS' => rn_load rfl (Ld.row1 (hy_d905.kpd hS' (by first | (simp; done) | (simp; omega) | (simp [*]; done) | exact notLL (Or.inl (by omega)) | exact notLL (Or.inr (by simp)) | exact fun g hm => Nat.le_trans (by omega) (inLL hm).1 | (intro b o e; cases e; exact notLL (Or.inl (by omega))) | (intro b hm; have := (hu.lt b (Option.mem_toList.1 hm)).1; omega) | (intro b o e; cases e; intro hm; have := (hu.lt _ (Option.mem_toList.1 hm)).1; omega))) (by kernel_rfl) rfl)) ?_
            refine WA_take 6 (by kernel_rfl) rfl (fun _ _ => rn_add rfl rfl (wu64 (by omega))) ?_
            refine WA_take 7 (by kernel_rfl) rfl (fun _ _ => rn_eql rfl rfl) ?_
            refine WA_take 8 (by kernel_rfl) rfl (fun _ _ => rn_move) ?_
            refine WA_tp 179 rfl ((by show ((Cn + 1 : Nat) : Int) = (Cn : Int) + 1; omega)) ?_
            refine WA_take 9 (by kernel_rfl) rfl (fun _ _ => rn_move) ?_
            refine WA_call 10 (by kernel_rfl) rfl (fun _ => rn_call (by kernel_rfl) rfl) (fun w' hS' => since21 (hG_d905.kpd hS' (by first | (simp; done) | (simp; omega) | (simp [*]; done) | exact notLL (Or.inl (by omega)) | exact notLL (Or.inr (by simp)) | exact fun g hm => Nat.le_trans (by omega) (inLL hm).1 | (intro b o e; cases e; exact notLL (Or.inl (by omega))) | (intro b hm; have := (hu.lt b (Option.mem_toList.1 hm)).1; omega) | (intro b o e; cases e; intro hm; have := (hu.lt _ (Option.mem_toList.1 hm)).1; omega)))) ?_
            refine WA_take 11 (by kernel_rfl) rfl (fun _ _ => rn_move) ?_
            refine WA_take 12 (by kernel_rfl) rfl (fun _ _ => rn_nilCheckP rfl) ?_
            refine WA_take 13 (by kernel_rfl) rfl (fun _ _ => rn_fieldAddr (off := 1) (by kernel_rfl) rfl) ?_
            refine WA_take 14 (by kernel_rfl) rfl (fun w' hS' => rn_load rfl (Ld.row1 (hy_d905.kpd hS' (by first | (simp; done) | (simp; omega) | (simp [*]; done) | exact notLL (Or.inl (by omega)) | exact notLL (Or.inr (by simp)) | exact fun g hm => Nat.le_trans (by omega) (inLL hm).1 | (intro b o e; cases e; exact notLL (Or.inl (by omega))) | (intro b hm; have := (hu.lt b (Option.mem_toList.1 hm)).1; omega) | (intro b o e; cases e; intro hm; have := (hu.lt _ (Option.mem_toList.1 hm)).1; omega))) (by kernel_rfl) rfl)) ?_
            refine WA_take 15 (by kernel_rfl) rfl (fun _ _ => rn_eql rfl rfl) ?_
            refine WA_take 16 (by kernel_rfl) rfl (fun _ _ => rn_pick_t rfl) ?_
            refine WA_take 17 (by kernel_rfl) rfl (fun _ _ => rn_move) ?_
            refine WA_tp 188 rfl (rfl) ?_
            refine WA_take 18 (by kernel_rfl) rfl (fun _ _ => rn_move) ?_
            refine WA_call 19 (by kernel_rfl) rfl (fun _ => rn_call (by kernel_rfl) rfl) (fun w' hS' => len22 (hG_d905.kpd hS' (by first | (simp; done) | (simp; omega) | (simp [*]; done) | exact notLL (Or.inl (by omega)) | exact notLL (Or.inr (by simp)) | exact fun g hm => Nat.le_trans (by omega) (inLL hm).1 | (intro b o e; cases e; exact notLL (Or.inl (by omega))) | (intro b hm; have := (hu.lt b (Option.mem_toList.1 hm)).1; omega) | (intro b o e; cases e; intro hm; have := (hu.lt _ (Option.mem_toList.1 hm)).1; omega)))) ?_
            refine WA_take 20 (by kernel_rfl) rfl (fun _ _ => rn_move) ?_
            refine WA_take 21 (by kernel_rfl) rfl (fun _ _ => rn_nilCheckP rfl) ?_
            refine WA_take 22 (by kernel_rfl) rfl (fun _ _ => rn_fieldAddr (off := 3) (by kernel_rfl) rfl) ?_
            refine WA_take 23 (by kernel_rfl) rfl (fun w' hS' => rn_load rfl (Ld.row1 (hy_d905.kpd hS' (by first | (simp; done) | (simp; omega) | (simp [*]; done) | exact notLL (Or.inl (by omega)) | exact notLL (Or.inr (by simp)) | exact fun g hm => Nat.le_trans (by omega) (inLL hm).1 | (intro b o e; cases e; exact notLL (Or.inl (by omega))) | (intro b hm; have := (hu.lt b (Option.mem_toList.1 hm)).1; omega) | (intro b o e; cases e; intro hm; have := (hu.lt _ (Option.mem_toList.1 hm)).1; omega))) (by kernel_rfl) rfl)) ?_
            refine WA_take 24 (by kernel_rfl) rfl (fun _ _ => rn_lenSl (e := 60) (sz := 1) (by kernel_rfl) rfl rfl) ?_
            refine WA_take 25 (by kernel_rfl) rfl (fun _ _ => rn_eql rfl rfl) ?_
            refine WA_take 26 (by kernel_rfl) rfl (fun _ _ => rn_pick_t rfl) ?_
            refine WA_take 27 (by kernel_rfl) rfl (fun _ _ => rn_move) ?_
            refine WA_tp 198 rfl (rfl) ?_
            refine WA_take 28 (by kernel_rfl) rfl (fun _ _ => rn_move) ?_
            refine WA_take 30 (by kernel_rfl) rfl (fun _ _ => rn_move) ?_
            refine WA_one 29 (by kernel_rfl) ?_
            refine WO_ent rfl rfl (rn_call (by kernel_rfl) rfl) (room19 hG hrf (by show (k : Int).toNat ≤ 4000; omega)) ?_
            rintro _ w200 ⟨rfl, hb200⟩
            have hS906 := hS905.add0 hb200
            refine ⟨hS906, ?_⟩
            replace hown := hown.new hb200
            replace hy := hy.new hb200
            replace hG := hG.new hb200
            replace har1 := har1.new hb200
            replace har2 := har2.new hb200
            replace hu2 := hu2.new hb200
            replace hB := hB.acc hb200
            refine WA_one 31 (by kernel_rfl) ?_
            refine WO_ent rfl rfl (rn_call (by kernel_rfl) rfl) (room21r hy hrf (by omega)) ?_
            rintro _ w202 ⟨rfl, hb202⟩
            have hS907 := hS906.add0 hb202
            refine ⟨hS907, ?_⟩
            replace hown := hown.new hb202
            replace hy := hy.new hb202
            replace hG := hG.new hb202
            replace har1 := har1.new hb202
            replace har2 := har2.new hb202
            replace hu2 := hu2.new hb202
            replace hB := hB.acc hb202
            refine WA_take 32 (by kernel_rfl) rfl (fun _ _ => rn_eql rfl rfl) ?_
            refine WA_take 33 (by kernel_rfl) rfl (fun _ _ => rn_pick_t rfl) ?_
            refine WA_take 34 (by kernel_rfl) rfl (fun _ _ => rn_move) ?_
            refine WA_tp 205 rfl ((by show (((k : Int).toNat - atS S : Nat) : Int) = ((k - atS S : Nat) : Int); rw [Int.toNat_natCast])) ?_
            refine WA_take 35 (by kernel_rfl) rfl (fun _ _ => rn_move) ?_
            refine WA_call 36 (by kernel_rfl) rfl (fun _ => rn_call (by kernel_rfl) rfl) (fun w' hS' => dead23 (hG_d905.kpd hS' (by first | (simp; done) | (simp; omega) | (simp [*]; done) | exact notLL (Or.inl (by omega)) | exact notLL (Or.inr (by simp)) | exact fun g hm => Nat.le_trans (by omega) (inLL hm).1 | (intro b o e; cases e; exact notLL (Or.inl (by omega))) | (intro b hm; have := (hu.lt b (Option.mem_toList.1 hm)).1; omega) | (intro b o e; cases e; intro hm; have := (hu.lt _ (Option.mem_toList.1 hm)).1; omega)))) ?_
            refine WA_take 37 (by kernel_rfl) rfl (fun _ _ => rn_not rfl) ?_
            refine WA_take 38 (by kernel_rfl) rfl (fun _ _ => rn_pick_t rfl) ?_
            refine WA_take 39 (by kernel_rfl) rfl (fun _ _ => rn_move) ?_
            refine WA_tnb 210 rfl (rfl) ?_
            refine WA_one 40 (by kernel_rfl) ?_
            refine WO_ent rfl rfl (rn_call (by kernel_rfl) rfl) (known7 w202) ?_
            rintro _ w211 ⟨rfl, hb211⟩
            have hS908 := hS907.add0 hb211
            refine ⟨hS908, ?_⟩
            replace hown := hown.new hb211
            replace hy := hy.new hb211
            replace hG := hG.new hb211
            replace har1 := har1.new hb211
            replace har2 := har2.new hb211
            replace hu2 := hu2.new hb211
            replace hB := hB.acc hb211
            refine WA_take 41 (by kernel_rfl) rfl (fun _ _ => rn_pick_t rfl) ?_
            refine WA_take 42 (by kernel_rfl) rfl (fun _ _ => rn_assign) ?_
            refine WA_done (by kernel_rfl) ?_
            refine thenN ?_
            refine W_ret ?_
            refine ret_ret [_] ⟨rfl, trivial⟩ ?_
            exact ⟨rfl, hB⟩

end Go.Proofs.YtkkgahgpemepeaaGreat
