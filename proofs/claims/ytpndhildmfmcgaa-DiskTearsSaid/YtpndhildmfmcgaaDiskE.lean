/- A disk: Flush, Crash, Write. -/
import Derived.Test.YtpndhildmfmcgaaDiskD
namespace Go.Proofs.Ytpndhildmfmcgaa
open Go Go.RowKit Coup

theorem _root_.Coup.SlAt.kpd0 {w w' : World} {M : List Nat} {p : Option Addr} {m sz : Nat} {cs : List Value} (h : SlAt w p m sz cs) (k : Kp M w w') (hM : 0 < m → ∀ b o, p = some ⟨b, o, none⟩ → b ∉ M) : SlAt w' p m sz cs := by
  rcases Nat.eq_zero_or_pos m with h0 | h0
  · subst h0
    have hl := h.len
    rw [Nat.zero_mul] at hl
    obtain rfl := List.eq_nil_of_length_eq_zero hl
    exact SlAt.nil _ _ _
  · exact h.kpd k (hM h0)
def setAll (D : Dk) (xs : List (Nat × Sec)) : Dk := xs.foldl (fun D p => setV D p.1 [p.2]) D
theorem setAll_len (D : Dk) : ∀ xs, (setAll D xs).V.length = D.V.length := by
  intro xs
  induction xs generalizing D with
  | nil => rfl
  | cons x xs ih =>
    show (setAll (setV D x.1 [x.2]) xs).V.length = _
    rw [ih]; exact List.length_set ..
theorem ver_setAll : ∀ (xs : List (Nat × Sec)) (D : Dk) (j : Nat), (∀ p ∈ xs, p.1 < D.V.length) → (∀ p ∈ xs, p.1 ≠ j) → ver (setAll D xs) j = ver D j
  | [], D, j, _, _ => rfl
  | x :: xs, D, j, h1, h2 => by
    show ver (setAll (setV D x.1 [x.2]) xs) j = _
    have hl : (setV D x.1 [x.2]).V.length = D.V.length := List.length_set ..
    rw [ver_setAll xs _ j (fun p hp => by rw [hl]; exact h1 p (List.mem_cons_of_mem _ hp)) (fun p hp => h2 p (List.mem_cons_of_mem _ hp)), ver_set (h1 x (List.mem_cons_self ..)), if_neg (h2 x (List.mem_cons_self ..))]
theorem ver_setAll_mem : ∀ (xs : List (Nat × Sec)) (D : Dk) (j : Nat) (s : Sec), (∀ p ∈ xs, p.1 < D.V.length) → (xs.map (·.1)).Nodup → (j, s) ∈ xs → ver (setAll D xs) j = [s]
  | x :: xs, D, j, s, h1, h2, h3 => by
    show ver (setAll (setV D x.1 [x.2]) xs) j = _
    have hl : (setV D x.1 [x.2]).V.length = D.V.length := List.length_set ..
    rw [List.map_cons, List.nodup_cons] at h2
    rcases List.mem_cons.1 h3 with e | e
    · subst e
      rw [ver_setAll xs _ j (fun p hp => by rw [hl]; exact h1 p (List.mem_cons_of_mem _ hp)) (fun p hp e => h2.1 (List.mem_map.2 ⟨p, hp, e⟩)), ver_set (h1 _ (List.mem_cons_self ..)), if_pos rfl]
    · exact ver_setAll_mem xs _ j s (fun p hp => by rw [hl]; exact h1 p (List.mem_cons_of_mem _ hp)) h2.2 e
theorem setAll_snoc (D : Dk) (xs : List (Nat × Sec)) {k : Nat} {p : Nat × Sec} (h : xs[k]? = some p) : setAll D (xs.take (k + 1)) = setV (setAll D (xs.take k)) p.1 [p.2] := by
  rw [List.take_add_one, h]; simp [setAll, List.foldl_append]
theorem setAll_left (D : Dk) (xs : List (Nat × Sec)) : (setAll D xs).left = D.left ∧ (setAll D xs).dead = D.dead := by
  induction xs generalizing D with
  | nil => exact ⟨rfl, rfl⟩
  | cons x xs ih => exact ih (setV D x.1 [x.2])
theorem opN_mem {D : Dk} {i : Nat} : i ∈ opN D ↔ i < D.V.length ∧ openB D i = true := by
  rw [opN, List.mem_filter, List.mem_range]
theorem opN_nodup (D : Dk) : (opN D).Nodup := List.Nodup.sublist List.filter_sublist List.nodup_range
/-- What is settled where f says what is left. -/
def setXs (D : Dk) (f : Nat → Nat → Sec) : List (Nat × Sec) := (opN D).zipIdx.map fun x => (x.1, f x.2 x.1)
theorem setXs_at {D : Dk} {f : Nat → Nat → Sec} {k i : Nat} (h : (opN D)[k]? = some i) : (setXs D f)[k]? = some (i, f k i) := by
  rw [setXs, List.getElem?_map, List.getElem?_zipIdx, h]; simp
theorem setXs_keys (D : Dk) (f : Nat → Nat → Sec) : (setXs D f).map (·.1) = opN D := by
  rw [setXs, List.map_map]
  show (opN D).zipIdx.map (fun x => x.1) = opN D
  exact List.zipIdx_map_fst ..
theorem setXs_len (D : Dk) (f : Nat → Nat → Sec) : (setXs D f).length = (opN D).length := by rw [← setXs_keys D f, List.length_map]
theorem setXs_lt {D : Dk} {f : Nat → Nat → Sec} {p : Nat × Sec} (h : p ∈ setXs D f) : p.1 < D.V.length := by
  have : p.1 ∈ (setXs D f).map (·.1) := List.mem_map_of_mem h
  rw [setXs_keys] at this
  exact (opN_mem.1 this).1
/-- A sector that is to be settled has not been settled yet. -/
theorem setXs_fresh {D : Dk} {f : Nat → Nat → Sec} {k i : Nat} (h : (opN D)[k]? = some i) : ver (setAll D ((setXs D f).take k)) i = ver D i := by
  refine ver_setAll _ D i (fun p hp => setXs_lt (List.mem_of_mem_take hp)) fun p hp e => ?_
  obtain ⟨j, hj⟩ := List.getElem?_of_mem hp
  rw [List.getElem?_take] at hj
  split at hj
  · rename_i hjk
    have hk : ((setXs D f).map (·.1))[j]? = some p.1 := by rw [List.getElem?_map, hj]; rfl
    rw [setXs_keys, e] at hk
    have hnd := opN_nodup D
    have h1 := (List.getElem?_eq_some_iff.1 hk)
    have h2 := (List.getElem?_eq_some_iff.1 h)
    obtain ⟨l1, e1⟩ := h1
    obtain ⟨l2, e2⟩ := h2
    have := (List.getElem_inj hnd).1 (e1.trans e2.symm)
    omega
  · cases hj
theorem opI_at {D : Dk} {k : Nat} (h : k < (opN D).length) : ∃ i, (opN D)[k]? = some i ∧ (iv (opI D))[k]? = some (.int .i64 (i : Int)) ∧ i < D.V.length := by
  obtain ⟨i, hi⟩ : ∃ i, (opN D)[k]? = some i := ⟨_, List.getElem?_eq_getElem h⟩
  refine ⟨i, hi, ?_, (opN_mem.1 (List.mem_of_getElem? hi)).1⟩
  rw [iv_get, opI, List.getElem?_map, hi]; rfl
theorem opI_len (D : Dk) : (opI D).length = (opN D).length := by simp [opI]
theorem leftAt_ok {v : List Sec} (h : secsOk v) (k : Nat) : (leftAt v k).length = 128 := by
  have hg : ∀ j, (v.getD j zeroS).length = 128 := fun j => by
    rw [List.getD_eq_getElem?_getD]
    cases hj : v[j]? with
    | none => simp [zeroS]
    | some s => exact h s (List.mem_of_getElem? hj)
  unfold leftAt
  split
  · exact hg _
  · split
    · exact headS_ok h
    · have h1 := hg (k / 2)
      have h2 := hg (k / 2 - 1)
      rw [tornS, List.length_append, List.length_take, List.length_drop]; omega
theorem leftS_ok {v : List Sec} (h : secsOk v) (_ : v ≠ []) (pick : Int) : (leftS v pick).length = 128 := leftAt_ok h _
theorem stepD_V (D : Dk) : (stepD D).V = D.V := by unfold stepD; split <;> rfl
def crashD (D : Dk) (picks : List Int) : Dk := { setAll D (setXs D fun k i => leftS (ver D i) (picks.getD k 0)) with left := -1, dead := false }
def flushA (D : Dk) : Dk := if stepOk D then setAll (stepD D) (setXs (stepD D) fun _ i => readD (stepD D) i) else stepD D
set_option maxHeartbeats 1000000 in
theorem flush16 {w : World} {g pl m : Nat} {G : List Nat} {D : Dk} {ol cl : Nat} {st : Int} {fu : Bool} {sv : Nat → Value} (h : DkM w g pl m G D ol cl st fu sv) :
    Calls Try.prog 16 [.pointer (some ⟨g, 0, none⟩)].toArray w (Ret fun v w' => v = .int .i64 (if stepOk D then 0 else 10) ∧ (∃ st', DkM w' g pl m G (flushA D) ol cl st' fu sv) ∧ Kp [g, pl, m] w w') := by
  have hS := sectors27 h
  have hp := h.pos
  have hst := step36 h
  have hK := KpB.refl [g, pl, m] w
  obtain ⟨ok, hok⟩ : ∃ ok, stepOk D = ok := ⟨_, rfl⟩
  rw [flushA]
  rw [hok] at hst ⊢
  obtain ⟨D1, hD1⟩ : ∃ D1, stepD D = D1 := ⟨_, rfl⟩
  rw [hD1] at hst ⊢
  have hlg := h.row.lt
  refine calls_W (fn := Try.f16) (rs := [.tmp 2]) (n := 28) Try.func16 rfl rfl Try.ntmps16 (by kernel_rfl) rfl ?_
  refine W_seq ?_
  refine W_region ?_
  refine WR_val rfl (rn_assign) ?_
  refine WR_nil ?_
  refine thenN ?_
  refine W_seq ?_
  refine W_seq ?_
  refine W_region ?_
  refine WR_val rfl (rn_move) ?_
  refine WR_ent rfl (rn_call (by kernel_rfl) rfl) (hS) ?_
  rintro _ _ ⟨rfl, rfl⟩
  refine WR_val rfl (rn_eql rfl rfl) ?_
  refine WR_nil ?_
  refine thenN ?_
  refine W_fp rfl ((by omega)) ?_
  refine W_skip ?_
  refine thenN ?_
  refine W_seq ?_
  refine W_seq ?_
  refine W_region ?_
  refine WR_val rfl (rn_move) ?_
  refine WR_ent rfl (rn_call (by kernel_rfl) rfl) (hst) ?_
  rintro _ w10 ⟨rfl, ⟨st1, h1⟩, hb10⟩
  replace hK := hK.only hb10 (by simp)
  refine WR_val rfl (rn_assign) ?_
  refine WR_nil ?_
  refine thenN ?_
  refine W_seq ?_
  refine W_region ?_
  refine WR_val rfl (rn_move) ?_
  refine WR_val rfl (rn_neq rfl rfl) ?_
  refine WR_nil ?_
  refine thenN ?_
  refine W_ifp rfl (fun hne => ?_) (fun hne => ?_)
  ·
    refine W_seq ?_
    refine W_region ?_
    refine WR_val rfl (rn_move) ?_
    refine WR_val rfl (rn_assign) ?_
    refine WR_nil ?_
    refine thenN ?_
    refine W_ret ?_
    refine thenR ?_
    refine ret_ret [_] ⟨rfl, trivial⟩ ?_
    have hk0 : ok = false := by cases ok with | false => rfl | true => simp at hne
    refine ⟨by rw [hk0]; rfl, ⟨st1, by rw [hk0]; exact h1⟩, hK.k⟩
  ·
    have hk1 : ok = true := by cases ok with | true => rfl | false => simp at hne
    rw [hk1, if_pos rfl, if_pos rfl]
    have hOp := open22 h1
    have hoil := opI_len D1
    have hg1 := h1.row.lt
    have hpl1 := h1.own.lt
    have hm1 := h1.map.lt
    refine W_skip ?_
    refine thenN ?_
    refine W_seq ?_
    refine W_seq ?_
    refine W_region ?_
    refine WR_val rfl (rn_move) ?_
    refine WR_ent rfl (rn_call (by kernel_rfl) rfl) (hOp) ?_
    rintro _ w15 ⟨p, c, rfl, hsl, hpb, hb15⟩
    replace hK := hK.new hb15
    refine WR_val rfl (rn_lenSl (e := 3) (sz := 1) (by kernel_rfl) rfl rfl) ?_
    refine WR_val rfl (rn_move) ?_
    refine WR_nil ?_
    refine thenN ?_
    refine W_block ?_
    have hn8 := h1.ok.n
    have hoc : (opN D1).length ≤ D1.V.length := Nat.le_trans (List.length_filter_le _ _) (by rw [List.length_range]; exact Nat.le_refl _)
    have hobt : ∃ X, (setXs D1 fun _ i => readD D1 i) = X := ⟨_, rfl⟩
    obtain ⟨X, hX⟩ := hobt
    rw [hX]
    have hXl : X.length = (opN D1).length := by rw [← hX, setXs_len]
    have hpn : ∀ b o, p = some ⟨b, o, none⟩ → b ∉ [pl, m] := fun b o e hm => by
      have := hpb b o e
      simp only [List.mem_cons, List.not_mem_nil, or_false] at hm
      omega
    have hM0 : DkM w15 g pl m G (setAll D1 (X.take 0)) ol cl st1 fu sv := h1.new (by assumption)
    refine W_loop (α := Nat) 0 (fun k => [(17, .int .i64 (k : Nat)), (16, .int .i64 ((opI D1).length : Nat)), (15, .slice p (opI D1).length c), (0, .pointer (some ⟨g, 0, none⟩))])
      (fun k w' => k ≤ (opN D1).length ∧ DkM w' g pl m G (setAll D1 (X.take k)) ol cl st1 fu sv ∧ SlAt w' p (opI D1).length 1 (iv (opI D1)) ∧ KpB [g, pl, m] w w') (fun k => (opN D1).length - k)
      ⟨rfl, rfl, rfl, rfl, rfl⟩ ⟨Nat.zero_le _, hM0, hsl, hK⟩ ?_
    clear hM0 hsl hK
    rintro k f wr ⟨hk, hM, hsl, hK⟩
    refine W_seq ?_
    refine W_region ?_
    refine WR_val rfl (rn_lss rfl rfl) ?_
    refine WR_nil ?_
    refine thenN ?_
    refine W_seq ?_
    refine W_ifp rfl (fun hlt => ?_) (fun hlt => ?_)
    ·
      refine W_skip ?_
      refine thenN ?_
      refine W_seq ?_
      refine W_block ?_
      refine W_seq ?_
      have hobt := opI_at (D := D1) (k := k) (by omega)
      obtain ⟨i, hik, hiv, hil⟩ := hobt
      have hobt := hsl.some (by omega)
      obtain ⟨gp, op, rfl, hgp⟩ := hobt
      have hrd : readD (setAll D1 (X.take k)) i = readD D1 i := by rw [readD, ← hX, setXs_fresh hik]; rfl
      have hVl := setAll_len D1 (X.take k)
      have hXk : X[k]? = some (i, readD D1 i) := by rw [← hX]; exact setXs_at hik
      have hnw := now38 hM i (by omega)
      rw [hrd] at hnw
      have hsn := setAll_snoc D1 X hXk
      have hl128 : (readD D1 i).length = 128 := lastS_ok (ver_ok h1.ok hil).2.1
      refine W_region ?_
      refine WR_val rfl (rn_indexSl1 (e := 3) (by kernel_rfl) rfl rfl (k) (by omega) (by omega)) ?_
      refine WR_val rfl (rn_load rfl (Ld.sl1 hsl (by kernel_rfl) hiv)) ?_
      refine WR_val rfl (rn_assign) ?_
      refine WR_nil ?_
      refine thenN ?_
      refine W_region ?_
      refine WR_val rfl (rn_move) ?_
      refine WR_val rfl (rn_move) ?_
      refine WR_val rfl (rn_move) ?_
      refine WR_val rfl (rn_move) ?_
      refine WR_ent rfl (rn_call (by kernel_rfl) rfl) (hnw) ?_
      rintro _ w25 ⟨rfl, hb25⟩
      replace hK := hK.new hb25
      replace hM := hM.new hb25
      refine WR_ent rfl (rn_call (by kernel_rfl) rfl) (settle37 hM i _ (by omega) hl128) ?_
      rintro _ w26 ⟨hM2, hb26⟩
      replace hK := hK.kpd hb26 (by first | (simp; done) | (simp; omega))
      rw [← hsn] at hM2
      refine WR_nil ?_
      refine blockN ?_
      refine thenN ?_
      refine W_region ?_
      refine WR_val rfl (rn_add rfl rfl (Coup.w64 (by omega))) ?_
      refine WR_val rfl (rn_move) ?_
      refine WR_nil ?_
      refine loopN ⟨k + 1, by omega, ⟨by go_num, rfl, rfl, rfl, rfl⟩, by omega, hM2, (hsl.new hb25).kpd hb26 hpn, hK⟩
    ·
      have hkl : k = (opN D1).length := by omega
      rw [hkl, List.take_of_length_le (by omega)] at hM
      refine W_exit ?_
      refine thenX ?_
      refine loopX ?_
      refine blockX ?_
      refine thenN ?_
      refine W_seq ?_
      refine W_region ?_
      refine WR_val rfl (rn_assign) ?_
      refine WR_nil ?_
      refine thenN ?_
      refine W_ret ?_
      refine ret_ret [_] ⟨rfl, trivial⟩ ?_
      exact ⟨rfl, ⟨st1, hM⟩, hK.k⟩
set_option maxHeartbeats 1000000 in
theorem crash20 {w : World} {g pl m : Nat} {G : List Nat} {D : Dk} {ol cl : Nat} {st : Int} {fu : Bool} {sv : Nat → Value} (h : DkM w g pl m G D ol cl st fu sv) (pp : Option Addr) (np cp : Nat) (picks : List Int) (hpk : SlAt w pp np 1 (iv picks)) (hpkb : 0 < np → ∀ b o, pp = some ⟨b, o, none⟩ → b ∉ [g, pl, m]) :
    Calls Try.prog 20 [.pointer (some ⟨g, 0, none⟩), .slice pp np cp].toArray w (Ret fun v w' => v = .int .i64 0 ∧ DkM w' g pl m G (crashD D picks) ol cl 0 false sv ∧ Kp [g, pl, m] w w') := by
  have hS := sectors27 h
  have hp := h.pos
  have hK := KpB.refl [g, pl, m] w
  have hOp := open22 h
  have hoil := opI_len D
  have hg1 := h.row.lt
  have hpl1 := h.own.lt
  have hm1 := h.map.lt
  have hn8 := h.ok.n
  have hnp : np = picks.length := by simpa [iv_length] using hpk.len.symm
  have hoc : (opN D).length ≤ D.V.length := Nat.le_trans (List.length_filter_le _ _) (by rw [List.length_range]; exact Nat.le_refl _)
  rw [crashD]
  obtain ⟨X, hX⟩ : ∃ X, (setXs D fun k i => leftS (ver D i) (picks.getD k 0)) = X := ⟨_, rfl⟩
  rw [hX]
  have hXl : X.length = (opN D).length := by rw [← hX, setXs_len]
  refine calls_W (fn := Try.f20) (rs := [.tmp 4]) (n := 44) Try.func20 rfl rfl Try.ntmps20 (by kernel_rfl) rfl ?_
  refine W_seq ?_
  refine W_region ?_
  refine WR_val rfl (rn_assign) ?_
  refine WR_nil ?_
  refine thenN ?_
  refine W_seq ?_
  refine W_seq ?_
  refine W_region ?_
  refine WR_val rfl (rn_move) ?_
  refine WR_ent rfl (rn_call (by kernel_rfl) rfl) (hS) ?_
  rintro _ _ ⟨rfl, rfl⟩
  refine WR_val rfl (rn_eql rfl rfl) ?_
  refine WR_nil ?_
  refine thenN ?_
  refine W_fp rfl ((by omega)) ?_
  refine W_skip ?_
  refine thenN ?_
  refine W_seq ?_
  refine W_seq ?_
  refine W_region ?_
  refine WR_val rfl (rn_move) ?_
  refine WR_ent rfl (rn_call (by kernel_rfl) rfl) (hOp) ?_
  rintro _ w12 ⟨p, c, rfl, hsl, hpb, hb12⟩
  replace hK := hK.new hb12
  refine WR_val rfl (rn_lenSl (e := 3) (sz := 1) (by kernel_rfl) rfl rfl) ?_
  refine WR_val rfl (rn_move) ?_
  refine WR_nil ?_
  refine thenN ?_
  refine W_block ?_
  have hpn : ∀ b o, p = some ⟨b, o, none⟩ → b ∉ [pl, m] := fun b o e hm => by
    have := hpb b o e
    simp only [List.mem_cons, List.not_mem_nil, or_false] at hm
    omega
  have hM0 : DkM w12 g pl m G (setAll D (X.take 0)) ol cl st fu sv := h.new (by assumption)
  refine W_loop (α := Nat) 0 (fun k => [(14, .int .i64 (k : Nat)), (13, .int .i64 ((opI D).length : Nat)), (12, .slice p (opI D).length c), (0, .pointer (some ⟨g, 0, none⟩)), (1, .slice pp np cp)])
    (fun k w' => k ≤ (opN D).length ∧ DkM w' g pl m G (setAll D (X.take k)) ol cl st fu sv ∧ SlAt w' p (opI D).length 1 (iv (opI D)) ∧ KpB [g, pl, m] w w') (fun k => (opN D).length - k)
    ⟨rfl, rfl, rfl, rfl, rfl, rfl⟩ ⟨Nat.zero_le _, hM0, hsl, hK⟩ ?_
  clear hM0 hsl hK
  rintro k f wr ⟨hk, hM, hsl, hK⟩
  have hVl := setAll_len D (X.take k)
  have hpk2 := hpk.kpd0 hK.k hpkb
  refine W_seq ?_
  refine W_region ?_
  refine WR_val rfl (rn_lss rfl rfl) ?_
  refine WR_nil ?_
  refine thenN ?_
  refine W_seq ?_
  refine W_ifp rfl (fun hlt => ?_) (fun hlt => ?_)
  ·
    refine W_skip ?_
    refine thenN ?_
    refine W_seq ?_
    refine W_block ?_
    refine W_seq ?_
    have hobt := opI_at (D := D) (k := k) (by omega)
    obtain ⟨i, hik, hiv, hil⟩ := hobt
    have hobt := hsl.some (by omega)
    obtain ⟨gp, op, rfl, hgp⟩ := hobt
    refine W_region ?_
    refine WR_val rfl (rn_move) ?_
    refine WR_val rfl (rn_indexSl1 (e := 3) (by kernel_rfl) rfl rfl (k) (by omega) (by omega)) ?_
    refine WR_val rfl (rn_load rfl (Ld.sl1 hsl (by kernel_rfl) hiv)) ?_
    refine WR_val rfl (rn_assign) ?_
    refine WR_val rfl (rn_assign) ?_
    refine WR_nil ?_
    refine thenN ?_
    refine W_seq ?_
    refine W_region ?_
    refine WR_val rfl (rn_assign) ?_
    refine WR_nil ?_
    refine thenN ?_
    refine W_cut (fun pk : Int => [(7, .int .i64 pk), (6, .int .i64 (i : Nat)), (14, .int .i64 (k : Nat)), (13, .int .i64 ((opI D).length : Nat)), (12, .slice (some ⟨gp, op, none⟩) (opI D).length c), (0, .pointer (some ⟨g, 0, none⟩)), (1, .slice pp np cp)]) (fun pk w' => pk = picks.getD k 0 ∧ wr = w') ?_ ?_
    ·
      refine W_seq ?_
      refine W_region ?_
      refine WR_val rfl (rn_move) ?_
      refine WR_val rfl (rn_move) ?_
      refine WR_val rfl (rn_lenSl (e := 3) (sz := 1) (by kernel_rfl) rfl rfl) ?_
      refine WR_val rfl (rn_lss rfl rfl) ?_
      refine WR_nil ?_
      refine thenN ?_
      refine W_ifp rfl (fun hkp => ?_) (fun hkp => ?_)
      ·
        have hobt : ∃ pk, picks[k]? = some pk := ⟨_, List.getElem?_eq_getElem (by omega)⟩
        obtain ⟨pk, hpk3⟩ := hobt
        have hobt := hpk2.some (by omega)
        obtain ⟨gq, oq, rfl, hgq⟩ := hobt
        refine W_region ?_
        refine WR_val rfl (rn_move) ?_
        refine WR_val rfl (rn_move) ?_
        refine WR_val rfl (rn_indexSl1 (e := 3) (by kernel_rfl) rfl rfl (k) (by omega) (by omega)) ?_
        refine WR_val rfl (rn_load rfl (Ld.sl1 hpk2 (by kernel_rfl) (iv_some hpk3))) ?_
        refine WR_val rfl (rn_assign) ?_
        refine WR_nil ?_
        refine loopN ⟨pk, ⟨rfl, rfl, rfl, rfl, rfl, rfl, rfl, rfl⟩, by rw [List.getD_eq_getElem?_getD, hpk3]; rfl, rfl⟩
      ·
        refine W_skip ?_
        refine loopN ⟨0, ⟨rfl, rfl, rfl, rfl, rfl, rfl, rfl, rfl⟩, by rw [List.getD_eq_getElem?_getD, List.getElem?_eq_none (by omega)]; rfl, rfl⟩
    ·
      rintro pk f2 wz ⟨hpkv, rfl⟩
      have hls := left40 hM i pk (by omega)
      have hfr : ver (setAll D (X.take k)) i = ver D i := by rw [← hX, setXs_fresh hik]
      rw [hfr] at hls
      have hXk : X[k]? = some (i, leftS (ver D i) pk) := by rw [← hX, hpkv]; exact setXs_at hik
      have hsn := setAll_snoc D X hXk
      have hl128 : (leftS (ver D i) pk).length = 128 := leftS_ok (ver_ok h.ok hil).2.1 (ver_ok h.ok hil).1 _
      refine W_region ?_
      refine WR_val rfl (rn_move) ?_
      refine WR_val rfl (rn_move) ?_
      refine WR_val rfl (rn_move) ?_
      refine WR_val rfl (rn_move) ?_
      refine WR_val rfl (rn_move) ?_
      refine WR_ent rfl (rn_call (by kernel_rfl) rfl) (hls) ?_
      rintro _ w32 ⟨rfl, hb32⟩
      replace hK := hK.new hb32
      replace hM := hM.new hb32
      refine WR_ent rfl (rn_call (by kernel_rfl) rfl) (settle37 hM i _ (by omega) hl128) ?_
      rintro _ w33 ⟨hM2, hb33⟩
      replace hK := hK.kpd hb33 (by first | (simp; done) | (simp; omega))
      rw [← hsn] at hM2
      refine WR_nil ?_
      refine blockN ?_
      refine thenN ?_
      refine W_region ?_
      refine WR_val rfl (rn_add rfl rfl (Coup.w64 (by omega))) ?_
      refine WR_val rfl (rn_move) ?_
      refine WR_nil ?_
      refine loopN ⟨k + 1, by omega, ⟨by go_num, rfl, rfl, rfl, rfl, rfl⟩, by omega, hM2, (hsl.new hb32).kpd hb33 hpn, hK⟩
  ·
    have hkl : k = (opN D).length := by omega
    rw [hkl, List.take_of_length_le (by omega)] at hM
    have hr := hM.row
    refine W_exit ?_
    refine thenX ?_
    refine loopX ?_
    refine blockX ?_
    refine thenN ?_
    refine W_seq ?_
    refine W_region ?_
    refine WR_val rfl (rn_move) ?_
    refine WR_val rfl (rn_move) ?_
    refine WR_val rfl (rn_move) ?_
    refine WR_val rfl (rn_nilCheckP rfl) ?_
    refine WR_val rfl (rn_fieldAddr (off := 2) (by kernel_rfl) rfl) ?_
    refine WR_sk rfl (sk_store1 rfl rfl rfl rfl hr (by kernel_rfl) (by first | (simp only [List.length_replicate]; omega) | (simp only [iv_length]; omega) | (simp only [bv_length, List.length_set]; omega) | simp) (fun w901 hr ho901 => ?_))
    replace hK := hK.only ho901 (by simp)
    have ho1 := ho901
    refine WR_val rfl (rn_nilCheckP rfl) ?_
    refine WR_val rfl (rn_fieldAddr (off := 3) (by kernel_rfl) rfl) ?_
    refine WR_sk rfl (sk_store1 rfl rfl rfl rfl hr (by kernel_rfl) (by first | (simp only [List.length_replicate]; omega) | (simp only [iv_length]; omega) | (simp only [bv_length, List.length_set]; omega) | simp) (fun w902 hr ho902 => ?_))
    replace hK := hK.only ho902 (by simp)
    have ho2 := ho902
    refine WR_val rfl (rn_nilCheckP rfl) ?_
    refine WR_val rfl (rn_fieldAddr (off := 4) (by kernel_rfl) rfl) ?_
    refine WR_sk rfl (sk_store1 rfl rfl rfl rfl hr (by kernel_rfl) (by first | (simp only [List.length_replicate]; omega) | (simp only [iv_length]; omega) | (simp only [bv_length, List.length_set]; omega) | simp) (fun w903 hr ho903 => ?_))
    replace hK := hK.only ho903 (by simp)
    refine WR_nil ?_
    refine thenN ?_
    refine W_seq ?_
    refine W_region ?_
    refine WR_val rfl (rn_assign) ?_
    refine WR_nil ?_
    refine thenN ?_
    refine W_ret ?_
    refine ret_ret [_] ⟨rfl, trivial⟩ ?_
    have ho3 := Only.trans (Only.trans ho1 ho2) ho903
    have ht := hM.turn ho3 (left' := -1) (dead' := false) (fu' := false) hr ⟨by omega, by omega, rfl⟩
    exact ⟨rfl, ht, hK.k⟩
end Go.Proofs.Ytpndhildmfmcgaa
