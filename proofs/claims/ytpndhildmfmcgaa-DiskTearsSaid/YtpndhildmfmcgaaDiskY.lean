/- The law DiskFuses, walked. -/
import Derived.Test.YtpndhildmfmcgaaDiskX
namespace Go.Proofs.Ytpndhildmfmcgaa
open Go Go.RowKit Coup

def opV (V : List (List Sec)) (a : AcT) : List (List Sec) := if a.kind = 2 then V.map fun v => [lastS v] else V.set (a.at_ % 4).toNat (V.getD (a.at_ % 4).toNat [] ++ [a.s])
def opA (D : Dk) (a : AcT) : Dk := if a.kind = 2 then flushD D else writeA D (a.at_ % 4) a.s
theorem in4 {D : Dk} (h : D.V.length = 4) (a : Int) : inD D (a % 4) = true := decide_eq_true (by rw [h]; omega)
theorem opA_ok {D : Dk} (h : D.V.length = 4) (a : AcT) (hs : stepOk D = true) : opA D a = ⟨opV D.V a, if 0 < D.left then D.left - 1 else D.left, D.dead⟩ := by
  unfold opA opV
  split
  · rw [flushD, if_pos hs, stepD, if_pos hs]
  · rw [writeA, in4 h, if_pos rfl, writeD, if_pos hs, stepD, if_pos hs]; rfl
theorem opA_no {D : Dk} (h : D.V.length = 4) (a : AcT) (hs : stepOk D = false) : opA D a = { D with dead := true } := by
  unfold opA
  split
  · rw [flushD, hs, stepD, hs]; rfl
  · rw [writeA, in4 h, if_pos rfl, writeD, hs, stepD, hs]; rfl
theorem opV_len (V : List (List Sec)) (a : AcT) : (opV V a).length = V.length := by unfold opV; split <;> simp
theorem opA_short {D : Dk} {k : Nat} (hl : D.V.length = 4) (h : shortD D k) (h1 : 1 ≤ k) (a : AcT) : shortD (opA D a) (k + 1) := by
  cases hs : stepOk D with
  | false => rw [opA_no hl a hs]; exact fun v hv => Nat.le_trans (h v hv) (by omega)
  | true =>
    rw [opA_ok hl a hs]
    intro v hv
    dsimp only at hv
    unfold opV at hv
    split at hv
    · obtain ⟨u, _, rfl⟩ := List.mem_map.1 hv
      simp
    · rcases List.mem_or_eq_of_mem_set hv with e | e
      · exact Nat.le_trans (h v e) (by omega)
      · rw [e, List.length_append, List.length_singleton]
        have : (ver D (a.at_ % 4).toNat).length ≤ k := h.ver (by omega)
        unfold ver at this
        omega
/-- The disk with a fuse, when so many steps were done of st, beside one without. -/
structure Fz (D E : Dk) (st k : Nat) : Prop where
  V : D.V = E.V
  n : E.V.length = 4
  left : D.left = (st : Int) - k
  le : k ≤ st
  dead : D.dead = true → k = st
  free : E.left = -1 ∧ E.dead = false
theorem Fz.ok {D E : Dk} {st k : Nat} (h : Fz D E st k) : stepOk D = decide (k < st) := by
  unfold stepOk
  rw [h.left]
  have h1 := h.le
  cases hd : D.dead with
  | true => rw [decide_eq_false (by have := h.dead hd; omega)]; rfl
  | false =>
    by_cases hk : k < st
    · rw [decide_eq_true hk]
      have : ((st : Int) - k == 0) = false := by simp; omega
      rw [this]; rfl
    · rw [decide_eq_false hk]
      have : ((st : Int) - k == 0) = true := by simp; omega
      rw [this]; rfl
theorem Fz.okE {D E : Dk} {st k : Nat} (h : Fz D E st k) : stepOk E = true := by
  unfold stepOk
  rw [h.free.1, h.free.2]; rfl
theorem Fz.no {D E : Dk} {st k : Nat} (h : Fz D E st k) (hk : ¬ k < st) (a : AcT) : Fz (opA D a) E st k := by
  rw [opA_no (by rw [h.V]; exact h.n) a (by rw [h.ok, decide_eq_false hk])]
  have h1 := h.le
  exact ⟨h.V, h.n, h.left, h.le, fun _ => by omega, h.free⟩
theorem Fz.yes {D E : Dk} {st k : Nat} (h : Fz D E st k) (hk : k < st) (a : AcT) : Fz (opA D a) (opA E a) st (k + 1) := by
  have hl : D.V.length = 4 := by rw [h.V]; exact h.n
  rw [opA_ok hl a (by rw [h.ok, decide_eq_true hk]), opA_ok h.n a h.okE]
  have h1 := h.left
  have h2 := h.free
  refine ⟨by rw [h.V], by rw [opV_len]; exact h.n, ?_, hk, fun hd => ?_, ?_, h2.2⟩
  · dsimp only
    rw [if_pos (by omega)]; omega
  · have := h.dead hd; omega
  · dsimp only
    rw [h2.1]; rfl
theorem Fz.same {D E : Dk} {st k : Nat} (h : Fz D E st k) : sameD D E = true := by
  unfold sameD lastsD readsD
  rw [h.V]
  exact decide_eq_true ⟨rfl, rfl⟩
theorem tWrite4 {Y : World → List Nat → Prop} [Thing Y] {g lo : Nat} {L : List Nat} {D : Dk} {w : World} (h : Two (DZ g D) Y lo L w) (hl : D.V.length = 4) (a : AcT) (hk : ¬ a.kind = 2) (hs : a.s.length = 128) (hsh : shortD D 90000) :
    Calls Try.prog 17 [.pointer (some ⟨g, 0, none⟩), .int .i64 (a.at_ % 4), .agg (bv a.s).toArray].toArray w (Ret fun v w' => v = .int .i64 (if stepOk D then 0 else 10) ∧ Two (DZ g (opA D a)) Y lo L w' ∧ LoL lo L w w') := by
  have := tWrite h (a.at_ % 4) a.s hs hsh
  rw [writeE, in4 hl, if_pos rfl] at this
  rw [opA, if_neg hk]
  exact this
theorem tFlush4 {Y : World → List Nat → Prop} [Thing Y] {g lo : Nat} {L : List Nat} {D : Dk} {w : World} (h : Two (DZ g D) Y lo L w) (a : AcT) (hk : a.kind = 2) :
    Calls Try.prog 16 [.pointer (some ⟨g, 0, none⟩)].toArray w (Ret fun v w' => v = .int .i64 (if stepOk D then 0 else 10) ∧ Two (DZ g (opA D a)) Y lo L w' ∧ LoL lo L w w') := by
  rw [opA, if_pos hk]
  exact tFlush h
theorem tSame {g g2 lo : Nat} {L : List Nat} {D E : Dk} {w : World} (h : Two (DZ g D) (DZ g2 E) lo L w) :
    Calls Try.prog 19 [.pointer (some ⟨g, 0, none⟩), .pointer (some ⟨g2, 0, none⟩)].toArray w (Ret fun v w' => v = .bool (sameD D E) ∧ Below w.heap.size w w') := by
  obtain ⟨⟨B, C, h1, h2, h3, h4⟩, h5, h6⟩ := h
  exact same h1 h2
/-- The disk alone, of two that begin. -/
theorem begin12d (n : Nat) (w : World) (h1 : 1 ≤ n) (h2 : n ≤ 8192) :
    Calls Try.prog 12 [.int .i64 (n : Int)].toArray w (Ret fun v w' => ∃ g h B, v = .tuple #[.pointer (some ⟨g, 0, none⟩), .pointer (some ⟨h, 0, none⟩), .bool true] ∧ DkX w' g B (newD n) ∧ (∀ b ∈ B, w.heap.size ≤ b) ∧ Below w.heap.size w w') :=
  (begin12 n w h1 h2).to fun v w' ⟨g, h, e, ⟨⟨B, C, hX, hY, h3, h4⟩, h5, h6⟩, hb⟩ => ⟨g, h, B, e, hX, fun b hb => (h3 b hb).1, hb⟩
theorem mod4 (a : Int) : (a.tmod 4 + 4) % 4 = a % 4 ∧ -4 < a.tmod 4 ∧ a.tmod 4 < 4 := pick_mod a 4 (by omega)
theorem ac_ld {w : World} {g o : Nat} {a : AcT} {q : Option Addr} {cp : Nat} (hc : ∀ j v, (acC a q cp)[j]? = some v → w.cell? ⟨g, o + j, none⟩ = some v) (hs : a.s.length = 128) : Ld Try.prog w 34 ⟨g, o + 3, none⟩ (.agg (bv a.s).toArray) :=
  Ld.rng (fun j v hv => by
    have hj := (List.getElem?_eq_some_iff.1 hv).1
    have := hc (3 + j) v (by
      rw [show 3 + j = j + 1 + 1 + 1 by omega]
      show (bv a.s ++ [Value.slice q a.picks.length cp])[j]? = some v
      rw [List.getElem?_append_left hj]; exact hv)
    rw [Nat.add_assoc]; exact this) (by kernel_rfl) (by rw [bv_length, hs]; kernel_rfl)
theorem setAll_short : ∀ (xs : List (Nat × Sec)) {D : Dk} {k : Nat}, shortD D k → 1 ≤ k → shortD (setAll D xs) k
  | [], D, k, h, h1 => h
  | x :: xs, D, k, h, h1 => setAll_short xs (D := setV D x.1 [x.2]) (fun v hv => by
      rcases List.mem_or_eq_of_mem_set hv with e | e
      · exact h v e
      · rw [e]; exact h1) h1
theorem crash_short {D : Dk} {k : Nat} (h : shortD D k) (h1 : 1 ≤ k) (p : List Int) : shortD (crashD D p) k := fun v hv => setAll_short _ h h1 v hv
theorem crash_len (D : Dk) (p : List Int) : (crashD D p).V.length = D.V.length := setAll_len D _
theorem step_alive {D : Dk} (h1 : D.left = -1) (h2 : D.dead = false) : stepOk D = true ∧ stepD D = D := by
  have h : stepOk D = true := by unfold stepOk; rw [h1, h2]; rfl
  refine ⟨h, ?_⟩
  rw [stepD, if_pos h, h1]
  exact Dk.ext' rfl h1.symm rfl
/-- A disk that is not dead, and has no fuse. -/
structure Alive (D : Dk) (k : Nat) : Prop where
  left : D.left = -1
  dead : D.dead = false
  pos : 0 < D.V.length
  short : shortD D k
theorem alive_crash {D : Dk} {k : Nat} (h : shortD D k) (h1 : 1 ≤ k) (h2 : 0 < D.V.length) (p : List Int) : Alive (crashD D p) k := ⟨rfl, rfl, by rw [crash_len]; exact h2, crash_short h h1 p⟩
theorem Alive.write {D : Dk} {k : Nat} (h : Alive D k) (s : Sec) : writeE D 0 = 0 ∧ Alive (writeA D 0 s) (k + 1) := by
  have hin : inD D 0 = true := decide_eq_true ⟨by omega, by have := h.pos; omega⟩
  obtain ⟨h1, h2⟩ := step_alive h.left h.dead
  refine ⟨by rw [writeE, hin, h1]; rfl, ?_⟩
  rw [writeA, hin, if_pos rfl, writeD, if_pos h1, h2]
  refine ⟨h.left, h.dead, by show 0 < (D.V.set _ _).length; rw [List.length_set]; exact h.pos, fun v hv => ?_⟩
  rcases List.mem_or_eq_of_mem_set hv with e | e
  · exact Nat.le_trans (h.short v e) (by omega)
  · rw [e, List.length_append, List.length_singleton]
    have := h.short.ver (i := (0 : Int).toNat) (by have := h.pos; simpa using this)
    omega
theorem Alive.flush {D : Dk} {k : Nat} (h : Alive D k) (h1 : 1 ≤ k) : stepOk D = true ∧ Alive (flushD D) k := by
  obtain ⟨h2, h3⟩ := step_alive h.left h.dead
  refine ⟨h2, ?_⟩
  rw [flushD, if_pos h2, h3]
  exact ⟨h.left, h.dead, by show 0 < (D.V.map _).length; rw [List.length_map]; exact h.pos, fun v hv => by obtain ⟨u, _, rfl⟩ := List.mem_map.1 hv; simpa using h1⟩
theorem dead_ops {D : Dk} (h : D.dead = true) (hl : 0 < D.V.length) (s : Sec) : writeE D 0 = 10 ∧ writeA D 0 s = D ∧ stepOk D = false ∧ flushD D = D := by
  obtain ⟨h1, h2⟩ := stepD_dead h
  have hin : inD D 0 = true := decide_eq_true ⟨by omega, by omega⟩
  refine ⟨by rw [writeE, hin, h1]; rfl, ?_, h1, ?_⟩
  · rw [writeA, hin, if_pos rfl, writeD, h1, h2]; rfl
  · rw [flushD, h1, h2]; rfl
set_option maxRecDepth 8000 in
set_option maxHeartbeats 2000000 in
theorem diskFusesC (n : Int) (p : Option Addr) (len cp : Nat) (R : List AcT) (again : Int) (w : World) (hn : wf64 n) (ha : wf64 again) (h : AcsAt w p len R) :
    Calls Try.prog 4 [.int .i64 n, .slice p len cp, .int .i64 again].toArray w (Ret fun v w' => v = .bool true ∧ Below w.heap.size w w') := by
  have hB := Below.refl w.heap.size w
  have hRl := h.1
  have hml : maxLen = 9223372036854775807 := by decide
  have hmax := h.max
  have hlen4 : (newD 4).V.length = 4 := newD_len 4
  obtain ⟨Z, hzz, hzb, hzl⟩ := zeroSQ
  have hZl : Z.length = 128 := by rw [← bv_length]; exact hzl
  refine calls_W (fn := Try.f4) (rs := [.tmp 6]) (n := 174) Try.func4 rfl rfl Try.ntmps4 (by kernel_rfl) rfl ?_
  refine W_seq ?_
  refine W_region ?_
  refine WR_val rfl (rn_assign) ?_
  refine WR_nil ?_
  refine thenN ?_
  refine W_seq ?_
  refine W_seq ?_
  refine W_region ?_
  refine WR_val rfl (rn_move) ?_
  refine WR_val rfl (rn_lss rfl rfl) ?_
  refine WR_val rfl (rn_move) ?_
  refine WR_part 19 rfl (fun h0 => ?_) (fun h0 => ?_)
  ·
    refine WR_no rfl rfl ?_
    refine WR_no rfl rfl ?_
    refine WR_val rfl (rn_pick_t rfl) ?_
    refine WR_val rfl (rn_move) ?_
    refine WR_no rfl rfl ?_
    refine WR_no rfl rfl ?_
    refine WR_val rfl (rn_pick_t rfl) ?_
    refine WR_val rfl (rn_move) ?_
    refine WR_no rfl rfl ?_
    refine WR_no rfl rfl ?_
    refine WR_no rfl rfl ?_
    refine WR_val rfl (rn_pick_t rfl) ?_
    refine WR_nil ?_
    refine thenN ?_
    refine W_tb rfl (rfl) ?_
    refine W_seq ?_
    refine W_region ?_
    refine WR_ent rfl (rn_call (by kernel_rfl) rfl) (known10 w) ?_
    rintro _ w32 ⟨rfl, hb32⟩
    replace hB := hB.acc hb32
    refine WR_val rfl (rn_assign) ?_
    refine WR_nil ?_
    refine thenN ?_
    refine W_ret ?_
    refine thenR ?_
    refine ret_ret [_] ⟨rfl, trivial⟩ ?_
    exact ⟨rfl, hB⟩
  ·
    refine WR_yes rfl ?_
    refine WR_val rfl (rn_move) ?_
    refine WR_yes rfl ?_
    refine WR_val rfl (rn_gtr rfl rfl) ?_
    refine WR_val rfl (rn_pick_f rfl) ?_
    refine WR_val rfl (rn_move) ?_
    refine WR_part 23 rfl (fun h60 => ?_) (fun h60 => ?_)
    ·
      refine WR_no rfl rfl ?_
      refine WR_no rfl rfl ?_
      refine WR_val rfl (rn_pick_t rfl) ?_
      refine WR_val rfl (rn_move) ?_
      refine WR_no rfl rfl ?_
      refine WR_no rfl rfl ?_
      refine WR_no rfl rfl ?_
      refine WR_val rfl (rn_pick_t rfl) ?_
      refine WR_nil ?_
      refine thenN ?_
      refine W_tb rfl (rfl) ?_
      refine W_seq ?_
      refine W_region ?_
      refine WR_ent rfl (rn_call (by kernel_rfl) rfl) (known10 w) ?_
      rintro _ w32 ⟨rfl, hb32⟩
      replace hB := hB.acc hb32
      refine WR_val rfl (rn_assign) ?_
      refine WR_nil ?_
      refine thenN ?_
      refine W_ret ?_
      refine thenR ?_
      refine ret_ret [_] ⟨rfl, trivial⟩ ?_
      exact ⟨rfl, hB⟩
    ·
      refine WR_yes rfl ?_
      refine WR_val rfl (rn_move) ?_
      refine WR_yes rfl ?_
      refine WR_val rfl (rn_lss rfl rfl) ?_
      refine WR_val rfl (rn_pick_f rfl) ?_
      refine WR_val rfl (rn_move) ?_
      refine WR_part 27 rfl (fun hag => ?_) (fun hag => ?_)
      ·
        refine WR_no rfl rfl ?_
        refine WR_no rfl rfl ?_
        refine WR_no rfl rfl ?_
        refine WR_val rfl (rn_pick_t rfl) ?_
        refine WR_nil ?_
        refine thenN ?_
        refine W_tb rfl (rfl) ?_
        refine W_seq ?_
        refine W_region ?_
        refine WR_ent rfl (rn_call (by kernel_rfl) rfl) (known10 w) ?_
        rintro _ w32 ⟨rfl, hb32⟩
        replace hB := hB.acc hb32
        refine WR_val rfl (rn_assign) ?_
        refine WR_nil ?_
        refine thenN ?_
        refine W_ret ?_
        refine thenR ?_
        refine ret_ret [_] ⟨rfl, trivial⟩ ?_
        exact ⟨rfl, hB⟩
      ·
        refine WR_yes rfl ?_
        refine WR_val rfl (rn_move) ?_
        refine WR_yes rfl ?_
        refine WR_ent rfl (rn_call (by kernel_rfl) rfl) (few9 p len cp 60 R w (acsBelow h hB) (by omega)) ?_
        rintro _ _ ⟨fB, rfl, hfB, rfl⟩
        refine WR_yes rfl ?_
        refine WR_val rfl (rn_not rfl) ?_
        refine WR_val rfl (rn_pick_f rfl) ?_
        refine WR_nil ?_
        refine thenN ?_
        refine W_ifnb rfl (fun hf => ?_) (fun hf => ?_)
        ·
          refine W_seq ?_
          refine W_region ?_
          refine WR_ent rfl (rn_call (by kernel_rfl) rfl) (known10 w) ?_
          rintro _ w32 ⟨rfl, hb32⟩
          replace hB := hB.acc hb32
          refine WR_val rfl (rn_assign) ?_
          refine WR_nil ?_
          refine thenN ?_
          refine W_ret ?_
          refine thenR ?_
          refine ret_ret [_] ⟨rfl, trivial⟩ ?_
          exact ⟨rfl, hB⟩
        ·
          have hfw := hfB (by cases fB <;> simp_all)
          obtain ⟨hf1, hf2⟩ := hfw
          have hobt : ∃ m : Nat, n = m := ⟨n.toNat, by omega⟩
          obtain ⟨st, rfl⟩ := hobt
          refine W_skip ?_
          refine thenN ?_
          refine W_seq ?_
          refine W_region ?_
          refine WR_ent rfl (rn_call (by kernel_rfl) rfl) (begin12d 4 w (by omega) (by omega)) ?_
          rintro _ w34 ⟨g, h1, B, rfl, hX, hBlo, hb34⟩
          replace hB := hB.acc hb34
          have hD : Two (DZ g (newD 4)) None w.heap.size [] w34 := Two.one hX (fun b hb => ⟨hBlo b hb, by simp⟩) hB.size (by simp)
          have hD0 := hD
          refine WR_val rfl (rn_move) ?_
          refine WR_val rfl (rn_extract rfl rfl) ?_
          refine WR_val rfl (rn_extract rfl rfl) ?_
          refine WR_val rfl (rn_extract rfl rfl) ?_
          refine WR_val rfl (rn_assign) ?_
          refine WR_val rfl (rn_assign) ?_
          refine WR_val rfl (rn_assign) ?_
          refine WR_nil ?_
          refine thenN ?_
          refine W_seq ?_
          refine W_region ?_
          refine WR_ent rfl (rn_call (by kernel_rfl) rfl) (begin12d 4 w34 (by omega) (by omega)) ?_
          rintro _ w39 ⟨g2, h2, B2, rfl, hX2, hBlo2, hb39⟩
          replace hB := hB.acc hb39
          have hD2 := Two.add (Y := DZ g2 (newD 4)) hD hb39 hX2 hBlo2
          refine WR_val rfl (rn_move) ?_
          refine WR_val rfl (rn_extract rfl rfl) ?_
          refine WR_val rfl (rn_extract rfl rfl) ?_
          refine WR_val rfl (rn_extract rfl rfl) ?_
          refine WR_val rfl (rn_assign) ?_
          refine WR_val rfl (rn_assign) ?_
          refine WR_val rfl (rn_assign) ?_
          refine WR_nil ?_
          refine thenN ?_
          refine W_seq ?_
          refine W_seq ?_
          refine W_region ?_
          refine WR_val rfl (rn_move) ?_
          refine WR_val rfl (rn_not rfl) ?_
          refine WR_val rfl (rn_move) ?_
          refine WR_fnb 45 rfl (rfl) ?_
          refine WR_yes rfl ?_
          refine WR_val rfl (rn_move) ?_
          refine WR_yes rfl ?_
          refine WR_val rfl (rn_not rfl) ?_
          refine WR_val rfl (rn_pick_f rfl) ?_
          refine WR_val rfl (rn_move) ?_
          refine WR_fnb 49 rfl (rfl) ?_
          refine WR_yes rfl ?_
          refine WR_val rfl (rn_move) ?_
          refine WR_yes rfl ?_
          refine WR_val rfl (rn_move) ?_
          refine WR_yes rfl ?_
          refine WR_ent rfl (rn_call (by kernel_rfl) rfl) (tFuse hD2 (st : Int) (by omega)) ?_
          rintro _ w52 ⟨rfl, hD2, hb52⟩
          replace hB := belLL hB hb52 (by omega)
          refine WR_yes rfl ?_
          refine WR_val rfl (rn_neq rfl rfl) ?_
          refine WR_val rfl (rn_pick_f rfl) ?_
          refine WR_nil ?_
          refine thenN ?_
          refine W_fp rfl ((by simp)) ?_
          refine W_skip ?_
          refine thenN ?_
          refine W_seq ?_
          refine W_region ?_
          refine WR_val rfl (rn_assign) ?_
          refine WR_nil ?_
          refine thenN ?_
          refine W_seq ?_
          refine W_seq ?_
          refine W_region ?_
          refine WR_val rfl (rn_assign) ?_
          refine WR_nil ?_
          refine thenN ?_
          refine W_block ?_
          have hz : Fz (fuseA (newD 4) (st : Int)) (newD 4) st 0 := by
            unfold fuseA
            rw [if_pos (by omega)]
            exact ⟨rfl, hlen4, by show (st : Int) = (st : Int) - ((0 : Nat) : Int); omega, Nat.zero_le _, (fun hd => by cases hd), ⟨rfl, rfl⟩⟩
          have hsh1 : shortD (fuseA (newD 4) (st : Int)) 1 := by
            unfold fuseA
            rw [if_pos (by omega)]
            exact fun v hv => newD_short 4 v hv
          have hsh2 := newD_short 4
          clear hD hX hX2
          have hob : ∃ D0, fuseA (newD 4) (st : Int) = D0 := ⟨_, rfl⟩
          obtain ⟨D0, hD0⟩ := hob
          rw [hD0] at hz hsh1 hD2
          have hob : ∃ E0, newD 4 = E0 := ⟨_, rfl⟩
          obtain ⟨E0, hE0⟩ := hob
          rw [hE0] at hz hsh2 hD2
          refine W_loop (α := Nat × Nat × Dk × Dk) (0, 0, D0, E0) (fun k => [(14, .int .i64 (k.1 : Nat)), (13, .int .i64 (k.2.1 : Nat)), (1, .slice p len cp), (0, .int .i64 (st : Int)), (2, .int .i64 again), (7, .pointer (some ⟨g, 0, none⟩)), (10, .pointer (some ⟨g2, 0, none⟩))])
            (fun k w' => k.1 ≤ len ∧ Fz k.2.2.1 k.2.2.2 st k.2.1 ∧ shortD k.2.2.1 (k.1 + 1) ∧ shortD k.2.2.2 (k.1 + 1) ∧ Two (DZ g k.2.2.1) (DZ g2 k.2.2.2) w.heap.size [] w' ∧ Below w.heap.size w w') (fun k => len - k.1)
            ⟨rfl, rfl, rfl, rfl, rfl, rfl, rfl, rfl⟩ ⟨Nat.zero_le _, hz, hsh1, hsh2, hD2, hB⟩ ?_
          clear hz hsh1 hsh2 hD2 hB
          rintro ⟨i, k, D, E⟩ f wr ⟨hi, hz, hsh1, hsh2, hD, hB⟩
          dsimp only at hi hz hsh1 hsh2 hD ⊢
          refine W_seq ?_
          refine W_seq ?_
          refine W_region ?_
          refine WR_val rfl (rn_move) ?_
          refine WR_val rfl (rn_move) ?_
          refine WR_val rfl (rn_lenSl (e := 37) (sz := 132) (by kernel_rfl) rfl rfl) ?_
          refine WR_val rfl (rn_lss rfl rfl) ?_
          refine WR_nil ?_
          refine thenN ?_
          refine W_ifp rfl (fun hlt => ?_) (fun hlt => ?_)
          ·
            refine W_skip ?_
            refine thenN ?_
            refine W_seq ?_
            refine W_block ?_
            refine W_seq ?_
            have hobt := h.get (i := i) (by omega)
            obtain ⟨a, hx⟩ := hobt
            have hobt := h.some (by omega)
            obtain ⟨gp, op, rfl, _⟩ := hobt
            have hle := h.ldB (P := Try.prog) (t := 37) (by kernel_rfl) (by kernel_rfl) hx
            obtain ⟨cs, ⟨q, qc, rfl, e2, e3, e4, _, hat, hn3, _⟩, hcl, hld⟩ := hle
            have hobt := mod4 a.at_
            obtain ⟨hm1, hm2, hm3⟩ := hobt
            refine W_region ?_
            refine WR_val rfl (rn_move) ?_
            refine WR_val rfl (rn_move) ?_
            refine WR_val rfl (rn_indexSl (e := 37) (sz := 132) (by kernel_rfl) rfl rfl (i) (by omega) (by omega)) ?_
            refine WR_val rfl (rn_fieldAddr (off := 1) (by kernel_rfl) rfl) ?_
            refine WR_val rfl (rn_load rfl (Ld.one (by kernel_rfl) ((hld _ hB).2 1 _ rfl))) ?_
            refine WR_val rfl (rn_rem rfl rfl (by omega) (rfl)) ?_
            refine WR_val rfl (rn_add rfl rfl (Coup.w64 (by omega))) ?_
            refine WR_val rfl (rn_rem rfl rfl (by omega) ((rm (by omega)).trans hm1)) ?_
            refine WR_val rfl (rn_assign) ?_
            refine WR_nil ?_
            refine thenN ?_
            refine W_seq ?_
            refine W_region ?_
            refine WR_val rfl (rn_assign) ?_
            refine WR_nil ?_
            refine thenN ?_
            refine W_cut (fun e : Int => [(16, .int .i64 e), (15, .int .i64 (a.at_ % 4)), (14, .int .i64 (i : Nat)), (13, .int .i64 (k : Nat)), (1, .slice (some ⟨gp, op, none⟩) len cp), (0, .int .i64 (st : Int)), (2, .int .i64 again), (7, .pointer (some ⟨g, 0, none⟩)), (10, .pointer (some ⟨g2, 0, none⟩))]) (fun e w' => e = (if k < st then 0 else 10) ∧ Two (DZ g (opA D a)) (DZ g2 E) w.heap.size [] w' ∧ Below w.heap.size w w') ?_ ?_
            ·
              refine W_seq ?_
              refine W_region ?_
              refine WR_val rfl (rn_move) ?_
              refine WR_val rfl (rn_move) ?_
              refine WR_val rfl (rn_indexSl (e := 37) (sz := 132) (by kernel_rfl) rfl rfl (i) (by omega) (by omega)) ?_
              refine WR_val rfl (rn_fieldAddr (off := 0) (by kernel_rfl) rfl) ?_
              refine WR_val rfl (rn_load rfl (Ld.one (by kernel_rfl) ((hld _ hB).2 0 _ rfl))) ?_
              refine WR_val rfl (rn_eql rfl rfl) ?_
              refine WR_nil ?_
              refine thenN ?_
              refine W_ifp rfl (fun hk2 => ?_) (fun hk2 => ?_)
              ·
                refine W_region ?_
                refine WR_val rfl (rn_move) ?_
                refine WR_ent rfl (rn_call (by kernel_rfl) rfl) (tFlush4 hD a hk2) ?_
                rintro _ w76 ⟨rfl, hD, hb76⟩
                replace hB := belLL hB hb76 (by omega)
                refine WR_val rfl (rn_assign) ?_
                refine WR_nil ?_
                refine loopN ⟨_, ⟨rfl, rfl, rfl, rfl, rfl, rfl, rfl, rfl, rfl, rfl⟩, ?_, hD, hB⟩
                rw [hz.ok]; simp
              ·
                refine W_region ?_
                refine WR_val rfl (rn_move) ?_
                refine WR_val rfl (rn_move) ?_
                refine WR_val rfl (rn_move) ?_
                refine WR_val rfl (rn_move) ?_
                refine WR_val rfl (rn_indexSl (e := 37) (sz := 132) (by kernel_rfl) rfl rfl (i) (by omega) (by omega)) ?_
                refine WR_val rfl (rn_fieldAddr (off := 3) (by kernel_rfl) rfl) ?_
                refine WR_val rfl (rn_load rfl (ac_ld (hld _ hB).2 e2)) ?_
                refine WR_ent rfl (rn_call (by kernel_rfl) rfl) (tWrite4 hD (by rw [hz.V]; exact hz.n) a hk2 e2 (short_of hsh1 (by omega))) ?_
                rintro _ w84 ⟨rfl, hD, hb84⟩
                replace hB := belLL hB hb84 (by omega)
                refine WR_val rfl (rn_assign) ?_
                refine WR_nil ?_
                refine loopN ⟨_, ⟨rfl, rfl, rfl, rfl, rfl, rfl, rfl, rfl, rfl, rfl⟩, ?_, hD, hB⟩
                rw [hz.ok]; simp
            ·
              rintro e f2 w2 ⟨he, hD, hB⟩
              have hs1 := opA_short (by rw [hz.V]; exact hz.n) hsh1 (by omega) a
              have hdd : ¬ k < st → (opA D a).dead = true := fun hk => by rw [opA_no (by rw [hz.V]; exact hz.n) a (by rw [hz.ok, decide_eq_false hk])]
              have hc : (k < st ∧ e = 0) ∨ (¬ k < st ∧ e = 10) := by
                by_cases hk : k < st
                · rw [if_pos hk] at he; exact .inl ⟨hk, he⟩
                · rw [if_neg hk] at he; exact .inr ⟨hk, he⟩
              refine W_seq ?_
              refine W_seq ?_
              refine W_region ?_
              refine WR_val rfl (rn_move) ?_
              refine WR_val rfl (rn_eql rfl rfl) ?_
              refine WR_val rfl (rn_move) ?_
              refine WR_val rfl (rn_move) ?_
              refine WR_val rfl (rn_lss rfl rfl) ?_
              refine WR_val rfl (rn_neqb (by kernel_rfl) rfl rfl) ?_
              refine WR_val rfl (rn_move) ?_
              refine WR_fb 91 rfl ((by rcases hc with ⟨h1, h2⟩ | ⟨h1, h2⟩ <;> simp [h1, h2] <;> omega)) ?_
              refine WR_yes rfl ?_
              refine WR_val rfl (rn_move) ?_
              refine WR_yes rfl ?_
              refine WR_val rfl (rn_neq rfl rfl) ?_
              refine WR_yes rfl ?_
              refine WR_val rfl (rn_move) ?_
              refine WR_part 94 rfl (fun hne => ?_) (fun hne => ?_)
              ·
                refine WR_yes rfl ?_
                refine WR_val rfl (rn_move) ?_
                refine WR_yes rfl ?_
                refine WR_val rfl (rn_neq rfl rfl) ?_
                refine WR_yes rfl ?_
                refine WR_val rfl (rn_move) ?_
                refine WR_fp 97 rfl ((by omega)) ?_
                refine WR_yes rfl ?_
                refine WR_val rfl (rn_move) ?_
                refine WR_yes rfl ?_
                have hk : ¬ k < st := by omega
                have hTD := tDead hD
                rw [hdd hk] at hTD
                refine WR_ent rfl (rn_call (by kernel_rfl) rfl) (hTD) ?_
                rintro _ _ ⟨rfl, rfl⟩
                refine WR_yes rfl ?_
                refine WR_val rfl (rn_not rfl) ?_
                refine WR_yes rfl ?_
                refine WR_val rfl (rn_pick_f rfl) ?_
                refine WR_yes rfl ?_
                refine WR_val rfl (rn_pick_t rfl) ?_
                refine WR_val rfl (rn_pick_f rfl) ?_
                refine WR_nil ?_
                refine thenN ?_
                refine W_fnb rfl (rfl) ?_
                refine W_skip ?_
                refine thenN ?_
                refine W_seq ?_
                refine W_seq ?_
                refine W_region ?_
                refine WR_val rfl (rn_move) ?_
                refine WR_val rfl (rn_neq rfl rfl) ?_
                refine WR_nil ?_
                refine thenN ?_
                refine W_tp rfl ((by omega)) ?_
                refine W_exit ?_
                refine thenX ?_
                refine blockX ?_
                refine thenN ?_
                refine W_region ?_
                refine WR_val rfl (rn_move) ?_
                refine WR_val rfl (rn_add rfl rfl (Coup.w64 (by omega))) ?_
                refine WR_val rfl (rn_assign) ?_
                refine WR_nil ?_
                refine loopN ⟨(i + 1, k, opA D a, E), by omega, ⟨by go_num, rfl, rfl, rfl, rfl, rfl, rfl, rfl⟩, by omega, hz.no hk a, hs1, short_of hsh2 (by omega), hD, hB⟩
              ·
                have hk : k < st := by omega
                have hz2 := hz.yes hk a
                have hs2 := opA_short hz.n hsh2 (by omega) a
                refine WR_no rfl rfl ?_
                refine WR_no rfl rfl ?_
                refine WR_no rfl rfl ?_
                refine WR_nou rfl ?_
                refine WR_nou rfl ?_
                refine WR_nou rfl ?_
                refine WR_no rfl rfl ?_
                refine WR_yes rfl ?_
                refine WR_val rfl (rn_pick_f rfl) ?_
                refine WR_val rfl (rn_pick_f rfl) ?_
                refine WR_nil ?_
                refine thenN ?_
                refine W_fb rfl (rfl) ?_
                refine W_skip ?_
                refine thenN ?_
                refine W_seq ?_
                refine W_seq ?_
                refine W_region ?_
                refine WR_val rfl (rn_move) ?_
                refine WR_val rfl (rn_neq rfl rfl) ?_
                refine WR_nil ?_
                refine thenN ?_
                refine W_fp rfl ((by omega)) ?_
                refine W_skip ?_
                refine thenN ?_
                refine W_seq ?_
                refine W_region ?_
                refine WR_val rfl (rn_move) ?_
                refine WR_val rfl (rn_add rfl rfl (Coup.w64 (by omega))) ?_
                refine WR_val rfl (rn_assign) ?_
                refine WR_nil ?_
                refine thenN ?_
                refine W_seq ?_
                refine W_region ?_
                refine WR_val rfl (rn_move) ?_
                refine WR_val rfl (rn_move) ?_
                refine WR_val rfl (rn_indexSl (e := 37) (sz := 132) (by kernel_rfl) rfl rfl (i) (by omega) (by omega)) ?_
                refine WR_val rfl (rn_fieldAddr (off := 0) (by kernel_rfl) rfl) ?_
                refine WR_val rfl (rn_load rfl (Ld.one (by kernel_rfl) ((hld _ hB).2 0 _ rfl))) ?_
                refine WR_val rfl (rn_eql rfl rfl) ?_
                refine WR_nil ?_
                refine thenN ?_
                refine W_ifp rfl (fun hk2 => ?_) (fun hk2 => ?_)
                ·
                  refine W_region ?_
                  refine WR_val rfl (rn_move) ?_
                  refine WR_ent rfl (rn_call (by kernel_rfl) rfl) (tFlush4 hD.swap a hk2) ?_
                  rintro _ w115 ⟨_, hD, hb115⟩
                  replace hB := belLL hB hb115 (by omega)
                  refine WR_nil ?_
                  refine blockN ?_
                  refine thenN ?_
                  refine W_region ?_
                  refine WR_val rfl (rn_move) ?_
                  refine WR_val rfl (rn_add rfl rfl (Coup.w64 (by omega))) ?_
                  refine WR_val rfl (rn_assign) ?_
                  refine WR_nil ?_
                  refine loopN ⟨(i + 1, k + 1, opA D a, opA E a), by omega, ⟨by go_num, by go_num, rfl, rfl, rfl, rfl, rfl, rfl⟩, by omega, hz2, hs1, hs2, hD.swap, hB⟩
                ·
                  refine W_region ?_
                  refine WR_val rfl (rn_move) ?_
                  refine WR_val rfl (rn_move) ?_
                  refine WR_val rfl (rn_move) ?_
                  refine WR_val rfl (rn_move) ?_
                  refine WR_val rfl (rn_indexSl (e := 37) (sz := 132) (by kernel_rfl) rfl rfl (i) (by omega) (by omega)) ?_
                  refine WR_val rfl (rn_fieldAddr (off := 3) (by kernel_rfl) rfl) ?_
                  refine WR_val rfl (rn_load rfl (ac_ld (hld _ hB).2 e2)) ?_
                  refine WR_ent rfl (rn_call (by kernel_rfl) rfl) (tWrite4 hD.swap hz.n a hk2 e2 (short_of hsh2 (by omega))) ?_
                  rintro _ w123 ⟨_, hD, hb123⟩
                  replace hB := belLL hB hb123 (by omega)
                  refine WR_nil ?_
                  refine blockN ?_
                  refine thenN ?_
                  refine W_region ?_
                  refine WR_val rfl (rn_move) ?_
                  refine WR_val rfl (rn_add rfl rfl (Coup.w64 (by omega))) ?_
                  refine WR_val rfl (rn_assign) ?_
                  refine WR_nil ?_
                  refine loopN ⟨(i + 1, k + 1, opA D a, opA E a), by omega, ⟨by go_num, by go_num, rfl, rfl, rfl, rfl, rfl, rfl⟩, by omega, hz2, hs1, hs2, hD.swap, hB⟩
          ·
            have hsm := tSame hD
            rw [hz.same] at hsm
            have hpG : 0 < D.V.length := by rw [hz.V, hz.n]; omega
            have hobt : ∃ dd, D.dead = dd := ⟨_, rfl⟩
            obtain ⟨dd, hdd⟩ := hobt
            refine W_exit ?_
            refine thenX ?_
            refine loopX ?_
            refine blockX ?_
            refine thenN ?_
            refine W_seq ?_
            refine W_seq ?_
            refine W_region ?_
            refine WR_val rfl (rn_move) ?_
            refine WR_val rfl (rn_move) ?_
            refine WR_ent rfl (rn_call (by kernel_rfl) rfl) (hsm) ?_
            rintro _ w126 ⟨rfl, hb126⟩
            replace hD := hD.new hb126
            replace hB := hB.acc hb126
            refine WR_val rfl (rn_not rfl) ?_
            refine WR_nil ?_
            refine thenN ?_
            refine W_fnb rfl (rfl) ?_
            refine W_skip ?_
            refine thenN ?_
            refine W_seq ?_
            refine W_seq ?_
            refine W_region ?_
            refine WR_val rfl (rn_move) ?_
            have htd := tDead hD
            rw [hdd] at htd
            refine WR_ent rfl (rn_call (by kernel_rfl) rfl) (htd) ?_
            rintro _ _ ⟨rfl, rfl⟩
            refine WR_val rfl (rn_move) ?_
            refine WR_partb 130 rfl (fun hd1 => ?_) (fun hd1 => ?_)
            ·
              refine WR_yes rfl ?_
              refine WR_val rfl (rn_move) ?_
              refine WR_yes rfl ?_
              refine WR_val rfl (rn_move) ?_
              refine WR_yes rfl ?_
              have hd2 : (fuseA D again).dead = true := by unfold fuseA; rw [if_pos (by omega)]; exact hdd.trans hd1
              have hpF : 0 < (fuseA D again).V.length := by unfold fuseA; rw [if_pos (by omega)]; exact hpG
              have hsF : shortD (fuseA D again) (i + 1) := by unfold fuseA; rw [if_pos (by omega)]; exact fun v hv => hsh1 v hv
              have hobt := dead_ops hd2 hpF Z
              obtain ⟨e1, e2, e3, e4⟩ := hobt
              refine WR_ent rfl (rn_call (by kernel_rfl) rfl) (tFuse hD again ha.2) ?_
              rintro _ w133 ⟨rfl, hD, hb133⟩
              replace hB := belLL hB hb133 (by omega)
              refine WR_yes rfl ?_
              refine WR_val rfl (rn_neq rfl rfl) ?_
              refine WR_yes rfl ?_
              refine WR_val rfl (rn_move) ?_
              refine WR_fp 135 rfl ((by rw [if_pos (by omega)]; omega)) ?_
              refine WR_yes rfl ?_
              refine WR_val rfl (rn_move) ?_
              refine WR_yes rfl ?_
              have htd2 := tDead hD
              rw [hd2] at htd2
              refine WR_ent rfl (rn_call (by kernel_rfl) rfl) (htd2) ?_
              rintro _ _ ⟨rfl, rfl⟩
              refine WR_yes rfl ?_
              refine WR_val rfl (rn_not rfl) ?_
              refine WR_yes rfl ?_
              refine WR_val rfl (rn_pick_f rfl) ?_
              refine WR_yes rfl ?_
              refine WR_val rfl (rn_move) ?_
              refine WR_fnb 140 rfl (rfl) ?_
              refine WR_yes rfl ?_
              refine WR_val rfl (rn_move) ?_
              refine WR_yes rfl ?_
              refine WR_val rfl (rn_zeroed (bv Z) (by rw [← hzb]; kernel_rfl)) ?_
              refine WR_yes rfl ?_
              have hwr := tWrite hD 0 Z hZl (short_of hsF (by omega))
              rw [e1, e2] at hwr
              refine WR_ent rfl (rn_call (by kernel_rfl) rfl) (hwr) ?_
              rintro _ w143 ⟨rfl, hD, hb143⟩
              replace hB := belLL hB hb143 (by omega)
              refine WR_yes rfl ?_
              refine WR_val rfl (rn_neq rfl rfl) ?_
              refine WR_yes rfl ?_
              refine WR_val rfl (rn_pick_f rfl) ?_
              refine WR_yes rfl ?_
              refine WR_val rfl (rn_move) ?_
              refine WR_fp 146 rfl ((by omega)) ?_
              refine WR_yes rfl ?_
              refine WR_val rfl (rn_move) ?_
              refine WR_yes rfl ?_
              have hfl := tFlush hD
              rw [e3, e4] at hfl
              refine WR_ent rfl (rn_call (by kernel_rfl) rfl) (hfl) ?_
              rintro _ w148 ⟨rfl, hD, hb148⟩
              replace hB := belLL hB hb148 (by omega)
              refine WR_yes rfl ?_
              refine WR_val rfl (rn_neq rfl rfl) ?_
              refine WR_yes rfl ?_
              refine WR_val rfl (rn_pick_f rfl) ?_
              refine WR_val rfl (rn_pick_t rfl) ?_
              refine WR_nil ?_
              refine thenN ?_
              refine W_fp rfl ((by simp)) ?_
              refine W_skip ?_
              refine thenN ?_
              refine W_seq ?_
              refine W_region ?_
              refine WR_val rfl (rn_move) ?_
              have hsG := hsF
              have hpG := hpF
              have hal := alive_crash hsG (by omega) hpG []
              have hobt := hal.write Z
              obtain ⟨hw1, hal2⟩ := hobt
              have hobt := hal2.flush (by omega)
              obtain ⟨hf1', hal3⟩ := hobt
              have hcr := tCrash hD none 0 0 [] (SlAt.nil _ _ _) (fun h0 => absurd h0 (Nat.lt_irrefl _))
              refine WR_ent rfl (rn_call (by kernel_rfl) rfl) (hcr) ?_
              rintro _ w153 ⟨rfl, hD, hb153⟩
              replace hB := belLL hB hb153 (by omega)
              refine WR_val rfl (rn_eql rfl rfl) ?_
              refine WR_val rfl (rn_move) ?_
              refine WR_tp 155 rfl (rfl) ?_
              refine WR_yes rfl ?_
              refine WR_val rfl (rn_move) ?_
              refine WR_yes rfl ?_
              refine WR_ent rfl (rn_call (by kernel_rfl) rfl) (tDead hD) ?_
              rintro _ _ ⟨rfl, rfl⟩
              refine WR_yes rfl ?_
              refine WR_val rfl (rn_not rfl) ?_
              refine WR_val rfl (rn_pick_t rfl) ?_
              refine WR_val rfl (rn_move) ?_
              refine WR_tnb 160 rfl (rfl) ?_
              refine WR_yes rfl ?_
              refine WR_val rfl (rn_move) ?_
              refine WR_yes rfl ?_
              refine WR_val rfl (rn_zeroed (bv Z) (by rw [← hzb]; kernel_rfl)) ?_
              refine WR_yes rfl ?_
              have hwr := tWrite hD 0 Z hZl (short_of hal.short (by omega))
              rw [hw1] at hwr
              refine WR_ent rfl (rn_call (by kernel_rfl) rfl) (hwr) ?_
              rintro _ w163 ⟨rfl, hD, hb163⟩
              replace hB := belLL hB hb163 (by omega)
              refine WR_yes rfl ?_
              refine WR_val rfl (rn_eql rfl rfl) ?_
              refine WR_val rfl (rn_pick_t rfl) ?_
              refine WR_val rfl (rn_move) ?_
              refine WR_tp 166 rfl ((by omega)) ?_
              refine WR_yes rfl ?_
              refine WR_val rfl (rn_move) ?_
              refine WR_yes rfl ?_
              have hfl := tFlush hD
              rw [hf1', if_pos rfl] at hfl
              refine WR_ent rfl (rn_call (by kernel_rfl) rfl) (hfl) ?_
              rintro _ w168 ⟨rfl, hD, hb168⟩
              replace hB := belLL hB hb168 (by omega)
              refine WR_yes rfl ?_
              refine WR_val rfl (rn_eql rfl rfl) ?_
              refine WR_val rfl (rn_pick_t rfl) ?_
              refine WR_val rfl (rn_move) ?_
              refine WR_tp 171 rfl ((by omega)) ?_
              refine WR_yes rfl ?_
              refine WR_ent rfl (rn_call (by kernel_rfl) rfl) (known10 w168) ?_
              rintro _ w172 ⟨rfl, hb172⟩
              replace hD := hD.new hb172
              replace hB := hB.acc hb172
              refine WR_val rfl (rn_pick_t rfl) ?_
              refine WR_val rfl (rn_assign) ?_
              refine WR_nil ?_
              refine thenN ?_
              refine W_ret ?_
              refine ret_ret [_] ⟨rfl, trivial⟩ ?_
              exact ⟨rfl, hB⟩
            ·
              have hsG := hsh1
              refine WR_no rfl rfl ?_
              refine WR_no rfl rfl ?_
              refine WR_no rfl rfl ?_
              refine WR_no rfl rfl ?_
              refine WR_no rfl rfl ?_
              refine WR_nou rfl ?_
              refine WR_nou rfl ?_
              refine WR_nou rfl ?_
              refine WR_no rfl rfl ?_
              refine WR_no rfl rfl ?_
              refine WR_nou rfl ?_
              refine WR_nou rfl ?_
              refine WR_nou rfl ?_
              refine WR_nou rfl ?_
              refine WR_no rfl rfl ?_
              refine WR_no rfl rfl ?_
              refine WR_nou rfl ?_
              refine WR_nou rfl ?_
              refine WR_nou rfl ?_
              refine WR_no rfl rfl ?_
              refine WR_val rfl (rn_pick_f rfl) ?_
              refine WR_nil ?_
              refine thenN ?_
              refine W_fb rfl (rfl) ?_
              refine W_skip ?_
              refine thenN ?_
              refine W_seq ?_
              refine W_region ?_
              refine WR_val rfl (rn_move) ?_
              have hal := alive_crash hsG (by omega) hpG []
              have hobt := hal.write Z
              obtain ⟨hw1, hal2⟩ := hobt
              have hobt := hal2.flush (by omega)
              obtain ⟨hf1', hal3⟩ := hobt
              have hcr := tCrash hD none 0 0 [] (SlAt.nil _ _ _) (fun h0 => absurd h0 (Nat.lt_irrefl _))
              refine WR_ent rfl (rn_call (by kernel_rfl) rfl) (hcr) ?_
              rintro _ w153 ⟨rfl, hD, hb153⟩
              replace hB := belLL hB hb153 (by omega)
              refine WR_val rfl (rn_eql rfl rfl) ?_
              refine WR_val rfl (rn_move) ?_
              refine WR_tp 155 rfl (rfl) ?_
              refine WR_yes rfl ?_
              refine WR_val rfl (rn_move) ?_
              refine WR_yes rfl ?_
              refine WR_ent rfl (rn_call (by kernel_rfl) rfl) (tDead hD) ?_
              rintro _ _ ⟨rfl, rfl⟩
              refine WR_yes rfl ?_
              refine WR_val rfl (rn_not rfl) ?_
              refine WR_val rfl (rn_pick_t rfl) ?_
              refine WR_val rfl (rn_move) ?_
              refine WR_tnb 160 rfl (rfl) ?_
              refine WR_yes rfl ?_
              refine WR_val rfl (rn_move) ?_
              refine WR_yes rfl ?_
              refine WR_val rfl (rn_zeroed (bv Z) (by rw [← hzb]; kernel_rfl)) ?_
              refine WR_yes rfl ?_
              have hwr := tWrite hD 0 Z hZl (short_of hal.short (by omega))
              rw [hw1] at hwr
              refine WR_ent rfl (rn_call (by kernel_rfl) rfl) (hwr) ?_
              rintro _ w163 ⟨rfl, hD, hb163⟩
              replace hB := belLL hB hb163 (by omega)
              refine WR_yes rfl ?_
              refine WR_val rfl (rn_eql rfl rfl) ?_
              refine WR_val rfl (rn_pick_t rfl) ?_
              refine WR_val rfl (rn_move) ?_
              refine WR_tp 166 rfl ((by omega)) ?_
              refine WR_yes rfl ?_
              refine WR_val rfl (rn_move) ?_
              refine WR_yes rfl ?_
              have hfl := tFlush hD
              rw [hf1', if_pos rfl] at hfl
              refine WR_ent rfl (rn_call (by kernel_rfl) rfl) (hfl) ?_
              rintro _ w168 ⟨rfl, hD, hb168⟩
              replace hB := belLL hB hb168 (by omega)
              refine WR_yes rfl ?_
              refine WR_val rfl (rn_eql rfl rfl) ?_
              refine WR_val rfl (rn_pick_t rfl) ?_
              refine WR_val rfl (rn_move) ?_
              refine WR_tp 171 rfl ((by omega)) ?_
              refine WR_yes rfl ?_
              refine WR_ent rfl (rn_call (by kernel_rfl) rfl) (known10 w168) ?_
              rintro _ w172 ⟨rfl, hb172⟩
              replace hD := hD.new hb172
              replace hB := hB.acc hb172
              refine WR_val rfl (rn_pick_t rfl) ?_
              refine WR_val rfl (rn_assign) ?_
              refine WR_nil ?_
              refine thenN ?_
              refine W_ret ?_
              refine ret_ret [_] ⟨rfl, trivial⟩ ?_
              exact ⟨rfl, hB⟩
end Go.Proofs.Ytpndhildmfmcgaa
