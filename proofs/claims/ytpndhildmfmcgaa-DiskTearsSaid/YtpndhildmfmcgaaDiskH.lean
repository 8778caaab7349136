/- A disk and all its blocks, as one fact; what becomes of it. -/
import Derived.Test.YtpndhildmfmcgaaDiskG
import Derived.Test.YtpndhildmfmcgaaVm16
namespace Go.Proofs.Ytpndhildmfmcgaa
open Go Go.RowKit Coup

/-- A disk at g; all its blocks are B. -/
def DkX (w : World) (g : Nat) (B : List Nat) (D : Dk) : Prop := ∃ pl m G ol cl st fu sv, B = [g, pl, m] ++ G ∧ DkM w g pl m G D ol cl st fu sv ∧ DkO w G D sv
namespace DkX
variable {w w' : World} {g : Nat} {B M : List Nat} {D : Dk}
theorem kpd (h : DkX w g B D) (k : Kp M w w') (hM : ∀ b ∈ B, b ∉ M) : DkX w' g B D := by
  obtain ⟨pl, m, G, ol, cl, st, fu, sv, rfl, h1, h2⟩ := h
  exact ⟨pl, m, G, ol, cl, st, fu, sv, rfl, h1.kpd k ⟨hM g (by simp), hM pl (by simp), hM m (by simp), fun b hb => hM b (by simp [hb])⟩, h2.kpd k fun b hb => hM b (by simp [hb])⟩
theorem new (h : DkX w g B D) (hb : Below w.heap.size w w') : DkX w' g B D := h.kpd (M := []) (Kp.of_below hb) (fun _ _ => by simp)
theorem lt (h : DkX w g B D) : ∀ b ∈ B, b < w.heap.size := by
  obtain ⟨pl, m, G, ol, cl, st, fu, sv, rfl, h1, h2⟩ := h
  intro b hb
  simp only [List.cons_append, List.nil_append, List.mem_cons] at hb
  rcases hb with rfl | rfl | rfl | hb
  · exact h1.row.lt
  · exact h1.own.lt
  · exact h1.map.lt
  · exact h1.inG b hb
theorem ok (h : DkX w g B D) : DkOk D := by
  obtain ⟨pl, m, G, ol, cl, st, fu, sv, rfl, h1, h2⟩ := h
  exact h1.ok
theorem pos (h : DkX w g B D) : 0 < D.V.length := by
  obtain ⟨pl, m, G, ol, cl, st, fu, sv, rfl, h1, h2⟩ := h
  exact h1.pos
theorem self (h : DkX w g B D) : g ∈ B := by
  obtain ⟨pl, m, G, ol, cl, st, fu, sv, rfl, h1, h2⟩ := h
  simp
theorem only {b : Nat} (h : DkX w g B D) (ho : Only b w w') (hb : b ∉ B) : DkX w' g B D := h.kpd (Kp.of_only ho) fun x hx e => hb (by rw [← List.mem_singleton.1 e]; exact hx)
instance (g : Nat) (D : Dk) : Thing (fun w B => DkX w g B D) := ⟨kpd, lt⟩
end DkX
variable {w : World} {g : Nat} {B : List Nat} {D : Dk}
theorem sectors (h : DkX w g B D) : Calls Try.prog 27 [.pointer (some ⟨g, 0, none⟩)].toArray w (Ret fun v w' => v = .int .i64 (D.V.length : Int) ∧ w = w') := by
  obtain ⟨pl, m, G, ol, cl, st, fu, sv, rfl, h1, h2⟩ := h
  exact sectors27 h1
theorem dead (h : DkX w g B D) : Calls Try.prog 18 [.pointer (some ⟨g, 0, none⟩)].toArray w (Ret fun v w' => v = .bool D.dead ∧ w = w') := by
  obtain ⟨pl, m, G, ol, cl, st, fu, sv, rfl, h1, h2⟩ := h
  exact dead18 h1
theorem read (h : DkX w g B D) (i : Int) : Calls Try.prog 23 [.pointer (some ⟨g, 0, none⟩), .int .i64 i].toArray w (Ret fun v w' => v = .tuple #[.agg (bv (if inD D i then readD D i.toNat else zeroS)).toArray, .int .i64 (if inD D i then 0 else 2)] ∧ Below w.heap.size w w') := by
  obtain ⟨pl, m, G, ol, cl, st, fu, sv, rfl, h1, h2⟩ := h
  exact read23 h1 i
theorem openC (h : DkX w g B D) : Calls Try.prog 22 [.pointer (some ⟨g, 0, none⟩)].toArray w (Ret fun v w' => ∃ p c, v = .slice p (opI D).length c ∧ SlAt w' p (opI D).length 1 (iv (opI D)) ∧ (∀ b o, p = some ⟨b, o, none⟩ → w.heap.size ≤ b) ∧ Below w.heap.size w w') := by
  obtain ⟨pl, m, G, ol, cl, st, fu, sv, rfl, h1, h2⟩ := h
  exact open22 h1
/-- Write. -/
def writeA (D : Dk) (i : Int) (s : Sec) : Dk := if inD D i then writeD D i.toNat s else D
def writeE (D : Dk) (i : Int) : Int := if inD D i then (if stepOk D then 0 else 10) else 2
def shortD (D : Dk) (k : Nat) : Prop := ∀ v ∈ D.V, v.length ≤ k
theorem shortD.ver {k i : Nat} (h : shortD D k) (hi : i < D.V.length) : (ver D i).length ≤ k := h _ (List.mem_of_getElem? (ver_at hi))
theorem write (h : DkX w g B D) (i : Int) (s : Sec) (hs : s.length = 128) (hsh : shortD D 90000) :
    Calls Try.prog 17 [.pointer (some ⟨g, 0, none⟩), .int .i64 i, .agg (bv s).toArray].toArray w (Ret fun v w' => v = .int .i64 (writeE D i) ∧ ∃ B', DkX w' g B' (writeA D i s) ∧ Mv B B' w w') := by
  obtain ⟨pl, m, G, ol, cl, st, fu, sv, rfl, h1, h2⟩ := h
  rw [writeA, writeE]
  by_cases hi : 0 ≤ i ∧ i < D.V.length
  · obtain ⟨k, rfl⟩ : ∃ k : Nat, i = k := ⟨i.toNat, by omega⟩
    have hin : inD D (k : Int) = true := decide_eq_true hi
    rw [hin, if_pos rfl, if_pos rfl, Int.toNat_natCast]
    have hk : k < D.V.length := by omega
    refine (write17a h1 h2 k s hk hs (Nat.lt_of_le_of_lt (hsh.ver hk) (by omega))).to fun v w' hR => ?_
    obtain ⟨e, ⟨st', G', sv', h3, h4, h5⟩, h6⟩ := hR
    refine ⟨e, [g, pl, m] ++ G', ⟨pl, m, G', ol, cl, st', fu, sv', rfl, h3, h4⟩, h6, fun b hb => ?_⟩
    rcases List.mem_append.1 hb with hb | hb
    · exact .inl (List.mem_append_left _ hb)
    · exact (h5 b hb).imp (List.mem_append_right _) id
  · have hin : inD D i = false := decide_eq_false hi
    rw [hin]
    refine (write17b h1 i s hi hs).to fun v w' hR => ?_
    obtain ⟨e, h3⟩ := hR
    exact ⟨e, _, ⟨pl, m, G, ol, cl, st, fu, sv, rfl, h1.new h3, h2.kpd (M := []) (Kp.of_below h3) (by simp)⟩, Kp.of_below' h3, fun b hb => .inl hb⟩
/-! ### Flush and Crash, plainly -/
theorem setXs_mem {f : Nat → Nat → Sec} {k i : Nat} (h : (opN D)[k]? = some i) : (i, f k i) ∈ setXs D f := List.mem_of_getElem? (setXs_at h)
/-- What a settled sector holds. -/
theorem ver_settled {f : Nat → Nat → Sec} {k i : Nat} (h : (opN D)[k]? = some i) : ver (setAll D (setXs D f)) i = [f k i] :=
  ver_setAll_mem _ D i _ (fun _ hp => setXs_lt hp) (by rw [setXs_keys]; exact opN_nodup D) (setXs_mem h)
theorem ver_unsettled {f : Nat → Nat → Sec} {i : Nat} (h : openB D i = false) : ver (setAll D (setXs D f)) i = ver D i := by
  refine ver_setAll _ D i (fun _ hp => setXs_lt hp) fun p hp e => ?_
  have h1 : p.1 ∈ (setXs D f).map (·.1) := List.mem_map_of_mem hp
  rw [setXs_keys, e] at h1
  rw [(opN_mem.1 h1).2] at h
  cases h
theorem setAll_V {D D' : Dk} (h : D'.V = D.V) : ∀ xs, (setAll D' xs).V = (setAll D xs).V := fun xs => by
  induction xs generalizing D D' with
  | nil => exact h
  | cons x xs ih => exact ih (D := setV D x.1 [x.2]) (D' := setV D' x.1 [x.2]) (by unfold setV; dsimp only; rw [h])
theorem DkO.settled {w : World} {G : List Nat} {D D1 : Dk} {sv : Nat → Value} (h : DkO w G D sv) (hV : D1.V = D.V) (f : Nat → Nat → Sec) : DkO w G (setAll D1 (setXs D1 f)) sv := by
  have h1 : DkO w G D1 sv := h.alike hV
  have hc : ∀ i, openB (setAll D1 (setXs D1 f)) i = true → openB D1 i = true ∧ ver (setAll D1 (setXs D1 f)) i = ver D1 i := fun i hi => by
    cases hb : openB D1 i with
    | false => rw [openB, ver_unsettled hb] at hi; rw [openB] at hb; rw [hb] at hi; cases hi
    | true =>
      have hil : i < D1.V.length := by
        rw [openB] at hb
        have := of_decide_eq_true hb
        by_cases hlt : i < D1.V.length
        · exact hlt
        · rw [ver, List.getD_eq_getElem?_getD, List.getElem?_eq_none (by omega)] at this; simp at this
      obtain ⟨k, hk⟩ := List.getElem?_of_mem (opN_mem.2 ⟨hil, hb⟩)
      rw [openB, ver_settled hk] at hi
      simp at hi
  exact ⟨fun i hi => by rw [(hc i hi).2]; exact h1.own i (hc i hi).1, fun i j b hi hj => h1.sep i j b (hc i hi).1 (hc j hj).1⟩
theorem openB_one (h : DkOk D) {i : Nat} (hi : i < D.V.length) (ho : openB D i = false) : ∃ s, ver D i = [s] := by
  have h1 := List.length_pos_iff.2 (ver_ok h hi).1
  have h2 : ¬ 1 < (ver D i).length := of_decide_eq_false ho
  exact List.length_eq_one_iff.1 (by omega)
theorem Dk.ext' {D D' : Dk} (h1 : D.V = D'.V) (h2 : D.left = D'.left) (h3 : D.dead = D'.dead) : D = D' := by
  cases D; cases D'; simp_all
theorem V_ext {D D' : Dk} (hl : D.V.length = D'.V.length) (h : ∀ i, i < D.V.length → ver D i = ver D' i) : D.V = D'.V := by
  refine List.ext_getElem? fun i => ?_
  by_cases hi : i < D.V.length
  · rw [ver_at hi, ver_at (hl ▸ hi), h i hi]
  · rw [List.getElem?_eq_none (by omega), List.getElem?_eq_none (by omega)]
theorem flushA_eq (h : DkOk D) : flushA D = flushD D := by
  unfold flushA flushD
  by_cases ho : stepOk D = true
  · rw [if_pos ho, if_pos ho]
    have h1 : DkOk (stepD D) := by have := stepD_V D; exact ⟨by rw [this]; exact h.n, by rw [this]; exact h.ne, by rw [this]; exact h.sec, by rw [this]; exact h.short⟩
    have hl := setAll_left (stepD D) (setXs (stepD D) fun _ i => readD (stepD D) i)
    refine Dk.ext' (V_ext ?_ fun i hi => ?_) hl.1 hl.2
    · rw [setAll_len]; simp [stepD_V]
    · rw [setAll_len] at hi
      have e : ver { stepD D with V := (stepD D).V.map fun v => [lastS v] } i = [lastS (ver (stepD D) i)] := by
        unfold ver
        dsimp only
        rw [List.getD_eq_getElem?_getD, List.getElem?_map, ver_at hi]; rfl
      have e2 : ver { stepD D with V := D.V.map fun v => [lastS v] } i = [lastS (ver (stepD D) i)] := by rw [← e, stepD_V]
      rw [e2]
      cases hb : openB (stepD D) i with
      | true =>
        obtain ⟨k, hk⟩ := List.getElem?_of_mem (opN_mem.2 ⟨hi, hb⟩)
        rw [ver_settled hk]; rfl
      | false =>
        rw [ver_unsettled hb]
        obtain ⟨s, hs⟩ := openB_one h1 hi hb
        rw [hs]; rfl
  · rw [if_neg ho, if_neg ho]
theorem flush (h : DkX w g B D) : Calls Try.prog 16 [.pointer (some ⟨g, 0, none⟩)].toArray w (Ret fun v w' => v = .int .i64 (if stepOk D then 0 else 10) ∧ DkX w' g B (flushD D) ∧ Kp B w w') := by
  obtain ⟨pl, m, G, ol, cl, st, fu, sv, rfl, h1, h2⟩ := h
  rw [← flushA_eq h1.ok]
  refine (flush16 h1).to fun v w' hR => ?_
  obtain ⟨e, ⟨st', h3⟩, h4⟩ := hR
  refine ⟨e, ⟨pl, m, G, ol, cl, st', fu, sv, rfl, h3, ?_⟩, h4.weak fun k _ hk => List.mem_append_left _ hk⟩
  have h5 := h2.kpd h4 (fun b hb => by have := h1.ne.2.2.2 b hb; simp [this])
  unfold flushA
  split
  · exact h5.settled (stepD_V D) _
  · exact h5.alike (stepD_V D)
theorem fuse (h : DkX w g B D) (k : Int) (hk : k ≤ 9223372036854775807) :
    Calls Try.prog 15 [.pointer (some ⟨g, 0, none⟩), .int .i64 k].toArray w (Ret fun v w' => v = .int .i64 (if 0 ≤ k then 0 else 2) ∧ DkX w' g B (if 0 ≤ k then { D with left := k } else D) ∧ Kp B w w') := by
  obtain ⟨pl, m, G, ol, cl, st, fu, sv, rfl, h1, h2⟩ := h
  refine (fuse15 h1 k hk).to fun v w' hR => ?_
  obtain ⟨e, ⟨st', fu', h3⟩, h4⟩ := hR
  refine ⟨e, ⟨pl, m, G, ol, cl, st', fu', sv, rfl, h3, ?_⟩, (Kp.of_only h4).weak fun k _ hk => by rw [List.mem_singleton.1 hk]; simp⟩
  have h5 := h2.kpd (Kp.of_only h4) (fun b hb => by have := h1.ne.2.2.2 b hb; simp [this])
  split
  · exact h5.alike rfl
  · exact h5
theorem crash (h : DkX w g B D) (pp : Option Addr) (np cp : Nat) (picks : List Int) (hpk : SlAt w pp np 1 (iv picks)) (hpkb : 0 < np → ∀ b o, pp = some ⟨b, o, none⟩ → b ∉ B) :
    Calls Try.prog 20 [.pointer (some ⟨g, 0, none⟩), .slice pp np cp].toArray w (Ret fun v w' => v = .int .i64 0 ∧ DkX w' g B (crashD D picks) ∧ Kp B w w') := by
  obtain ⟨pl, m, G, ol, cl, st, fu, sv, rfl, h1, h2⟩ := h
  refine (crash20 h1 pp np cp picks hpk (fun h0 b o e hm => hpkb h0 b o e (List.mem_append_left _ hm))).to fun v w' hR => ?_
  obtain ⟨e, h3, h4⟩ := hR
  refine ⟨e, ⟨pl, m, G, ol, cl, 0, false, sv, rfl, h3, ?_⟩, h4.weak fun k _ hk => List.mem_append_left _ hk⟩
  have h5 := h2.kpd h4 (fun b hb => by have := h1.ne.2.2.2 b hb; simp [this])
  exact (h5.settled rfl _).alike rfl
end Go.Proofs.Ytpndhildmfmcgaa
