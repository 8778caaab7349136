import Derived.Test.YtkkgahgpemepeaaGreatM0
import Derived.Test.YtkkgahgpemepeaaGreatM3
import Derived.Test.YtkkgahgpemepeaaGreatM2
import Derived.Lib.SlBytesConst
namespace Coup
open Go Go.RowKit
def SeqU (P : Program) (gf : Nat) (lb : List Value) (m : Nat) (V : Nat → List Value → World → Prop) (ks : List Nat) (w : World) : Prop :=
  ∀ (l : Nat) (J : Nat → World → Prop) (Jx : World → Prop) (W : World), Below w.heap.size w W →
    (∀ k W W', J k W → Below W.heap.size W W' → J k W') → (∀ W W', Jx W → Below W.heap.size W W' → Jx W') →
    (∀ k v W1, k < m → V k v W1 → J k W1 → YieldT P l v W1 fun e W' => (e = .returned (.bool true) ∧ J (k + 1) W' ∧ (∀ b, b ∈ ks → W'.heap[b]? = W1.heap[b]?) ∧ W1.heap.size ≤ W'.heap.size) ∨ (e = .returned (.bool false) ∧ Jx W')) →
    J 0 W → Calls P gf (.func (.yield l) #[] #[] :: lb).toArray W (Ret fun _ W' => J m W' ∨ Jx W')
section
variable {md : Option Nat → Prop} {P : Program} {n : Nat} {Q : Post} {ρ : Env} {w w0 : World}
theorem W_rangeFuncU {g : Operand} {ps : List Nat} {assign body : Code} {gf : Nat} {lb : List Value} {m : Nat} {V : Nat → List Value → World → Prop} {ks : List Nat} (hmd : ∀ rd, md rd → rd = none)
    (hg : ev ρ g = .func (.func gf) #[] lb.toArray) (hcan : canCall P gf = true) (hseq : SeqU P gf lb m V ks w0) (hb0 : Below w0.heap.size w0 w) (hps : ∀ k v W, V k v W → v.length = ps.length) (hpn : ps.all (Nat.blt · n) = true) (hnd : ps.Nodup)
    (hks : ∀ b, b ∈ ks → b < w.heap.size)
    (I : Nat → World → Prop) (Ix : Code → World → Prop) (hI : ∀ k W W', I k W → Soft w.heap.size W W' → I k W') (hIx : ∀ c W W', Ix c W → Soft w.heap.size W W' → Ix c W') (h0 : I 0 w)
    (round : ∀ l k v W1, k < m → V k v W1 → I k W1 → w.heap.size ≤ W1.heap.size → W (fun rd => rd = some l) P n assign
      (fun e ρ' W' => e = .normal ∧ Below W1.heap.size W1 W' ∧ ∀ W2, Soft w.heap.size W' W2 → W (fun rd => rd = some l) P n body (roundQ w.heap.size ks I Ix k W2) ρ' W2) (setP ρ.f ps v) W1)
    (hdone : ∀ D W, w.heap.size ≤ D → I m W → W.heap[D]? = some (.deferred (some [])) → Q .normal ⟨ρ.f, D :: ρ.ms⟩ W)
    (hstop : ∀ D c W', w.heap.size ≤ D → Ix c W' → W'.heap[D]? = some (.deferred (some [])) → codeOk n c = true ∧ W md P n c Q ⟨ρ.f, D :: ρ.ms⟩ W') :
    W md P n (.rangeFunc g ps.toArray assign body) Q ρ w := by
  intro hc rd a hrd ha
  obtain rfl := hmd rd hrd
  simp only [codeOk, Bool.and_eq_true] at hc
  have hpn' : ∀ p, p ∈ ps → p < n := fun p hp => by have := List.all_eq_true.1 hpn p hp; simpa using this
  refine wpIn_rangeFunc ?_
  intro fn hfn
  obtain ⟨rec, hrec⟩ : ∃ rec : LoopState → Option Code → Loop, rec = fun st pe => { state := st, pending := pe, fn, tmps := a.tmps, params := ps.toArray, assign, body, defers := w.heap.size } := ⟨_, rfl⟩
  obtain ⟨W1, hW1⟩ : ∃ W1, (w.alloc (.deferred (some []))).alloc (.loop (rec .ready none)) = W1 := ⟨_, rfl⟩
  have hs1 : W1.heap.size = w.heap.size + 2 := by rw [← hW1]; simp
  have hL1 : W1.heap[w.heap.size + 1]? = some (.loop (rec .ready none)) := by
    rw [← hW1]; have := World.alloc_heap_new (w.alloc (.deferred (some []))) (.loop (rec .ready none)); rwa [World.size_alloc] at this
  have hK1 : W1.heap[w.heap.size]? = some (.deferred (some [])) := by
    rw [← hW1]; exact (Below.heap_alloc _ _ _ (by simp)).trans (World.alloc_heap_new w _)
  have hbw : Below w.heap.size w W1 := by rw [← hW1]; exact ((Below.refl _ w).alloc (Nat.le_refl _) _).alloc (by simp) _
  have hI1 : I 0 W1 := hI 0 w W1 h0 (Soft.of_below hbw)
  have hb1 : Below w0.heap.size w0 W1 := hb0.acc hbw
  have hro : (fr none).round = none := rfl
  obtain ⟨lw, hlw⟩ : ∃ lw, lw = w.heap.size + 1 := ⟨_, rfl⟩
  have hcall : (callFunc gf (.func (.yield lw) #[] #[] :: lb).toArray).run P W1 = .ok (.enter gf (.func (.yield lw) #[] #[] :: lb).toArray) W1 := by
    unfold canCall at hcan
    cases hfn : P.funcs[gf]? with
    | none => simp [hfn] at hcan
    | some f =>
      rw [hfn] at hcan
      simp only [Bool.and_eq_true, Bool.not_eq_true'] at hcan
      cases hb : f.body with
      | none => simp [hb] at hcan
      | some c =>
        have hn : ¬ f.name = "runtime.NumGoroutine" := by simpa using hcan.1
        simp [callFunc, program, Sem.run, hfn, hn, hb, Result.andThen]
  have hae : a.eval g = .func (.func gf) #[] lb.toArray := by rw [ha.ev]; exact hg
  refine ⟨lw, [mkD w.heap.size], W1, { target := .fn (.func gf) lb.toArray, args := #[.func (.yield lw) #[] #[]] }, W1, gf, (.func (.yield lw) #[] #[] :: lb).toArray, W1, ?_, ?_, fun f' _ => fr_fn none f', ?_, fun hdp => by (rw [fr_depth] at hdp; cases hdp), ?_⟩
  · rw [hro, hlw, ← hW1, hrec]; exact run_enterLoop_outer _ _ _ _ _
  · simp only [resolve, rangeCall, hae]
    simp [Deferred.ofValue, Act.eval]
  · have e : #[Value.func (.yield lw) #[] #[]] ++ lb.toArray = (.func (.yield lw) #[] #[] :: lb).toArray := by simp
    simp only [invoke, e]
    exact hcall
  · refine fr_calls ((hseq lw (fun k W => I k W ∧ W.heap[w.heap.size + 1]? = some (.loop (rec .ready none)) ∧ W.heap[w.heap.size]? = some (.deferred (some [])))
      (fun W => ∃ c, Ix c W ∧ W.heap[w.heap.size + 1]? = some (.loop (rec .done (some c))) ∧ W.heap[w.heap.size]? = some (.deferred (some []))) W1 hb1 ?_ ?_ ?_ ⟨hI1, hL1, hK1⟩).mono ?_)
    · rintro k A B ⟨h1, h2, h3⟩ hAB
      exact ⟨hI k A B h1 (Soft.of_below hAB), by rw [hAB.block _ (Array.getElem?_eq_some_iff.1 h2).1]; exact h2, by rw [hAB.block _ (Array.getElem?_eq_some_iff.1 h3).1]; exact h3⟩
    · rintro A B ⟨c, h1, h2, h3⟩ hAB
      exact ⟨c, hIx c A B h1 (Soft.of_below hAB), by rw [hAB.block _ (Array.getElem?_eq_some_iff.1 h2).1]; exact h2, by rw [hAB.block _ (Array.getElem?_eq_some_iff.1 h3).1]; exact h3⟩
    · rintro k v W hkm hv ⟨hi, hl, hk⟩
      have hlt : w.heap.size + 1 < W.heap.size := (Array.getElem?_eq_some_iff.1 hl).1
      have hvl := hps k v W hv
      have hy := run_yield (P := P) (args := v.toArray) hl (by rw [hrec]; simpa using hvl)
      rw [hrec] at hy
      refine ⟨fn, _, assign, body, by rw [hlw]; exact hy, ?_⟩
      clear hy
      refine roundIn_of_wpIn (F := Fence.wide) (n := 0) trivial ?_
      have hag : Ag n { tmps := (ps.toArray.zip v.toArray).foldl (fun t (p, u) => t.setIfInBounds p u) a.tmps, defers := [] } (setP ρ.f ps v) := by
        have := setP_ag ha ps v a.tmps ha.s ha.t hpn' hnd
        rw [← Array.foldl_toList, Array.toList_zip]
        exact this
      have hA := round lw k v W hkm hv hi (by omega) hc.1 (some lw) _ rfl hag
      have hA' : assign.wpIn (Fence.wide.inRound lw) 0 P _ _ W := fun b k' cs h1 h2 h3 => hA b k' cs h1 h2 (room_wide _)
      refine wpIn_mono hA' ?_
      rintro e a' Wa ⟨ρ', h1, rfl, hbel, hbody⟩
      show ∃ w2, _
      have hl2 : Wa.heap[w.heap.size + 1]? = some (.loop (rec .ready none)) := by rw [hbel.block _ hlt]; exact hl
      have hk2 : Wa.heap[w.heap.size]? = some (.deferred (some [])) := by rw [hbel.block _ (by omega)]; exact hk
      have hlt2 := (Array.getElem?_eq_some_iff.1 hl2).1
      refine ⟨_, by rw [hlw]; exact run_beginRound hl2 (by rw [hrec]), ?_⟩
      obtain ⟨W2, hW2⟩ : ∃ W2, W2 = Wa.putObj (w.heap.size + 1) (.loop { rec .ready none with state := .busy }) := ⟨_, rfl⟩
      have hl3 : W2.heap[w.heap.size + 1]? = some (.loop { rec .ready none with state := .busy }) := by rw [hW2]; exact World.putObj_heap_same hlt2
      have hk3 : W2.heap[w.heap.size]? = some (.deferred (some [])) := by rw [hW2]; exact (World.putObj_heap_other (by omega)).trans hk2
      have hsf : Soft w.heap.size Wa W2 := by rw [hW2]; exact Soft.put _ hl2 (by omega) rfl
      rw [← hW2]
      have hB := hbody W2 hsf hc.2 (some lw) a' rfl h1
      have hB' : body.wpIn (Fence.wide.inRound lw) 0 P _ a' W2 := fun b k' cs h1 h2 h3 => hB b k' cs h1 h2 (room_wide _)
      refine wpIn_mono hB' ?_
      have fin : ∀ (jump : Option Code) (W3 : World), KeepsFrom w.heap.size W2 W3 →
          (Instr.endRound lw jump).run P W3 = .ok (.bool jump.isNone) (W3.putObj (w.heap.size + 1) (.loop (rec (if jump.isNone then .ready else .done) jump))) ∧
          Soft w.heap.size W3 (W3.putObj (w.heap.size + 1) (.loop (rec (if jump.isNone then .ready else .done) jump))) ∧
          (W3.putObj (w.heap.size + 1) (.loop (rec (if jump.isNone then .ready else .done) jump))).heap[w.heap.size + 1]? = some (.loop (rec (if jump.isNone then .ready else .done) jump)) ∧
          (W3.putObj (w.heap.size + 1) (.loop (rec (if jump.isNone then .ready else .done) jump))).heap[w.heap.size]? = some (.deferred (some [])) := fun jump W3 hk3' => by
        have hl4 := hk3'.same _ _ (by omega) hl3 rfl
        have := run_endRound (P := P) jump hl4
        rw [hrec] at this ⊢
        refine ⟨by rw [hlw]; exact this, Soft.put _ hl4 (by omega) rfl, World.putObj_heap_same (Array.getElem?_eq_some_iff.1 hl4).1, (World.putObj_heap_other (by omega)).trans (hk3'.same _ _ (Nat.le_refl _) hk3 rfl)⟩
      rintro e a3 W3 ⟨ρ3, _, hp⟩
      have hkw : ∀ b, b ∈ ks → W2.heap[b]? = W.heap[b]? := fun b hb => by
        have := hks b hb
        rw [hW2, World.putObj_heap_other (by omega), hbel.block b (by omega)]
      have hsz2 : W.heap.size ≤ W2.heap.size := by rw [hW2]; simpa using hbel.size
      cases e with
      | normal =>
        obtain ⟨hp1, hp2, hp3⟩ := hp
        obtain ⟨hr, hs, hl5, hk5⟩ := fin none W3 hp1
        refine ⟨_, _, hr, .inl ⟨rfl, ⟨hI _ _ _ hp3 hs, hl5, hk5⟩, fun b hb => ?_, ?_⟩⟩
        · have := hks b hb
          rw [World.putObj_heap_other (by omega), hp2 b hb, hkw b hb]
        · have := hp1.size; simp; omega
      | ret =>
        obtain ⟨hp1, hp2⟩ := hp
        obtain ⟨hr, hs, hl5, hk5⟩ := fin (some .ret) W3 hp1
        exact ⟨_, _, hr, .inr ⟨rfl, .ret, hIx _ _ _ hp2 hs, hl5, hk5⟩⟩
      | exit id =>
        obtain ⟨hp1, hp2⟩ := hp
        obtain ⟨hr, hs, hl5, hk5⟩ := fin (some (.exit id)) W3 hp1
        exact ⟨_, _, hr, .inr ⟨rfl, .exit id, hIx _ _ _ hp2 hs, hl5, hk5⟩⟩
      | goto t => exact hp.elim
      | panic ch => exact hp.elim
      | outgrown => exact hp.elim
    · rintro e W2 ⟨v, rfl, (⟨hi, hl, hk⟩ | ⟨c, hi, hl, hk⟩)⟩
      · refine ⟨none, _, by have := run_endLoop (P := P) hl (by rw [hrec]; simp); rw [hrec] at this; rw [hlw]; exact this, ?_⟩
        refine ⟨⟨ρ.f, w.heap.size :: ρ.ms⟩, ⟨by simp [ha.d], ha.s, ha.t⟩, hdone w.heap.size _ (Nat.le_refl _) (hI _ _ _ hi (Soft.put _ hl (by omega) rfl)) ((World.putObj_heap_other (by omega)).trans hk)⟩
      · refine ⟨some c, _, by have := run_endLoop (P := P) hl (by rw [hrec]; simp); rw [hrec] at this; rw [hlw]; exact this, ?_⟩
        obtain ⟨h1, h2⟩ := hstop w.heap.size c _ (Nat.le_refl _) (hIx _ _ _ hi (Soft.put _ hl (by omega) rfl)) ((World.putObj_heap_other (by omega)).trans hk)
        exact h2 h1 none _ hrd ⟨by simp [ha.d], ha.s, ha.t⟩
end
end Coup
namespace Go.Proofs.YtkkgahgpemepeaaGreat
open Go Go.RowKit Coup
structure RowD' where
  c : Nat
  nn : Nat
  b : List UInt8
def rowsL : Nat → List UInt8 → Nat → List RowD'
  | 0, _, _ => []
  | f + 1, l, n => if joinIs l n then ⟨hCount (halfAt l 0), hNum (halfAt l 0), joinB l⟩ :: rowsL f (l.drop (128 * needN (joinB l).length)) (n - needN (joinB l).length) else []
theorem joinNotW (p : Option Addr) (n cp : Nat) (l : List UInt8) (w : World) (h : SlAt w p n 128 (bv l)) (hn : n ≤ 1000000) (hj : joinIs l n = false) : Calls Tryz.prog 89 [.slice p n cp].toArray w (Ret fun v w' => v = noneV ∧ Below w.heap.size w w') := by
  have hJ : Calls Tryz.prog 89 [.slice p n cp].toArray w (Ret fun v w' => JR l n w v w') := by
    by_cases h0 : 0 < n
    · cases hm : mayT (hCount (halfAt l 0)) (hNum (halfAt l 0)) with
      | true => exact joinT p n cp l w h hn h0 hm
      | false => exact joinF p n cp l w h hn h0 hm
    · obtain rfl : n = 0 := by omega
      exact join0 p cp l w
  exact hJ.to fun v w' ⟨h1, h2⟩ => by
    rcases h2 with ⟨_, h2⟩ | ⟨h3, _⟩
    · exact ⟨h2, h1⟩
    · rw [hj] at h3; cases h3
theorem join_facts {l : List UInt8} {n : Nat} (hj : joinIs l n = true) : 0 < n ∧ mayT (hCount (halfAt l 0)) (hNum (halfAt l 0)) = true ∧ (l.length = n * 128 → needN (joinB l).length ≤ n ∧ 1 ≤ needN (joinB l).length) := by
  rw [joinIs, Bool.and_eq_true, Bool.and_eq_true] at hj
  obtain ⟨⟨h1, h2⟩, h3⟩ := hj
  have h0 := of_decide_eq_true h1
  rw [joinMay, Bool.and_eq_true, Bool.and_eq_true, Bool.and_eq_true] at h2
  obtain ⟨⟨⟨h4, h5⟩, h6⟩, h7⟩ := h2
  have h7 := of_decide_eq_true h7
  rw [joinOk, Bool.and_eq_true, Bool.and_eq_true, Bool.and_eq_true] at h3
  obtain ⟨⟨⟨_, h8⟩, h9⟩, _⟩ := h3
  have h9 := of_decide_eq_true h9
  refine ⟨h0, h4, fun hl => ?_⟩
  have hb : (joinB l).length ≤ joinK l (hMany (halfAt l 0)) := by rw [joinB, List.length_take]; omega
  have hk : manyN (joinB l).length ≤ manyN (joinK l (hMany (halfAt l 0))) := by unfold manyN; omega
  rw [h9] at hk
  have hp : 1 ≤ manyN (joinB l).length := by unfold manyN; omega
  unfold needN
  omega
theorem joinYesW (p : Option Addr) (n cp : Nat) (l : List UInt8) (w : World) (h : SlAt w p n 128 (bv l)) (hn : n ≤ 1000000) (hj : joinIs l n = true) : Calls Tryz.prog 89 [.slice p n cp].toArray w
    (Ret fun v w' => ∃ sp, v = .tuple #[.agg #[.int .u64 (hCount (halfAt l 0)), .int .i64 (hNum (halfAt l 0))], .slice sp (joinB l).length (joinB l).length, .int .i64 (needN (joinB l).length : Nat), .int .i64 0] ∧ SlAt w' sp (joinB l).length 1 (bv (joinB l)) ∧ Below w.heap.size w w') := by
  obtain ⟨h0, hm, _⟩ := join_facts hj
  exact (joinT p n cp l w h hn h0 hm).to fun v w' ⟨h1, h2⟩ => by
    rcases h2 with ⟨h3, _⟩ | ⟨_, sp, h3, h4⟩
    · rw [hj] at h3; cases h3
    · exact ⟨sp, h3, h4, h1⟩
theorem sl_dropZ {w : World} {q : Option Addr} {m c sz j : Nat} {cs : List Value} (h : SlAt w q m sz cs) (hj : j ≤ m) (hc : m ≤ c) : SlAt w (if c = j then q else q.map (·.add (j * sz))) (m - j) sz (cs.drop (j * sz)) := by
  refine ⟨by rw [List.length_drop, h.len, Nat.sub_mul], Nat.le_trans (Nat.sub_le _ _) h.max, fun h0 => ?_⟩
  have hs : 0 < (m - j) * sz := h0
  have hmj : 0 < m - j := Nat.pos_of_mul_pos_right hs
  have hmul : (m - j) * sz + j * sz = m * sz := by rw [← Nat.add_mul]; congr 1; omega
  obtain ⟨b, off, hp, hlt, hcell⟩ := h.at_ (by omega)
  refine ⟨b, off + j * sz, by rw [if_neg (by omega), hp, Option.map_some, Addr.add_lit], hlt, fun i hi => ?_⟩
  rw [List.getElem?_drop, ← hcell (j * sz + i) (by omega)]
  congr 2; omega
def RowV (R : List RowD') (k : Nat) (v : List Value) (W : World) : Prop := ∃ r, R[k]? = some r ∧ ∃ sp, v = [.agg #[.int .u64 (r.c : Int), .int .i64 (r.nn : Int)], .slice sp r.b.length r.b.length] ∧ SlAt W sp r.b.length 1 (bv r.b)
set_option maxRecDepth 20000 in
set_option maxHeartbeats 1000000 in
theorem rowsSeq (l : List UInt8) (g1 ga oa n c : Nat) (w : World) (hn : n ≤ 1000000) (h0n : 0 < n) (hcn : n ≤ c) (r1 : row w g1 [.slice (some ⟨ga, oa, none⟩) n c] 33)
    (hs : SlAt w (some ⟨ga, oa, none⟩) n 128 (bv l)) : SeqU Tryz.prog 88 [.pointer (some ⟨g1, 0, none⟩)] (rowsL n l n).length (RowV (rowsL n l n)) [g1, ga] w := by
  intro ly J Jx W hbW hJ hJx hy h0
  have r1W := r1.new hbW
  have hsW := hs.new hbW
  have hgaW := hsW.some (by omega)
  obtain ⟨_, _, heq, hgaW⟩ := hgaW
  cases heq
  have hB := Below.refl W.heap.size W
  obtain ⟨R, hR⟩ : ∃ R, rowsL n l n = R := ⟨_, rfl⟩
  rw [hR] at hy ⊢
  refine calls_W (fn := Tryz.f88) (rs := []) (n := 28) Tryz.func88 rfl rfl Tryz.ntmps88 (by kernel_rfl) rfl ?_
  refine W_seq ?_
  refine W_region ?_
  refine WR_val rfl (rn_load rfl (Ld.row1 r1W (by kernel_rfl) rfl)) ?_
  refine WR_val rfl (rn_assign) ?_
  refine WR_nil ?_
  refine thenN ?_
  refine W_block ?_
  refine W_loop (α := Nat × Nat × Nat × Option Addr × List UInt8) (0, n, c, some ⟨ga, oa, none⟩, l) (fun k => [(0, .func (.yield ly) #[] #[]), (1, .pointer (some ⟨g1, 0, none⟩)), (3, .slice k.2.2.2.1 k.2.1 k.2.2.1)])
    (fun k w' => k.1 ≤ R.length ∧ k.2.1 ≤ k.2.2.1 ∧ k.2.1 ≤ n ∧ (∃ f, k.2.1 ≤ f ∧ R.drop k.1 = rowsL f k.2.2.2.2 k.2.1) ∧ SlAt W k.2.2.2.1 k.2.1 128 (bv k.2.2.2.2) ∧ (∀ b o, k.2.2.2.1 = some ⟨b, o, none⟩ → 0 < k.2.1 → b = ga) ∧ J k.1 w' ∧ (∀ x, x ∈ [g1, ga] → w'.heap[x]? = W.heap[x]?) ∧ W.heap.size ≤ w'.heap.size) (fun k => k.2.1) ⟨rfl, rfl, rfl, rfl⟩ ⟨Nat.zero_le _, hcn, Nat.le_refl _, ⟨n, Nat.le_refl _, hR.symm⟩, hsW, (fun b o e _ => by cases e; rfl), h0, fun _ _ => rfl, Nat.le_refl _⟩ ?_
  rintro ⟨k, m, cm, q, lr⟩ f wr ⟨hk, hcm, hmn, ⟨fu, hfu, hdr⟩, hsm, hqa, hJk, hkp, hsz⟩
  dsimp only at *
  have hBr := Below.refl wr.heap.size wr
  have hlr : lr.length = m * 128 := by simpa [bv_length] using hsm.len
  have hsr : SlAt wr q m 128 (bv lr) := by
    by_cases h0m : 0 < m
    · obtain ⟨b, o, rfl, _⟩ := hsm.some (by omega)
      obtain rfl := hqa b o rfl h0m
      exact hsm.blk (hkp b (by simp)) hsz
    · exact ⟨hsm.len, hsm.max, fun h => absurd h (by rw [show m = 0 by omega, Nat.zero_mul]; exact Nat.lt_irrefl 0)⟩
  cases hj : joinIs lr m with
  | false =>
    have hkR : k = R.length := by
      have h1 := congrArg List.length hdr
      cases fu with
      | zero => rw [rowsL, List.length_drop, List.length_nil] at h1; omega
      | succ fu => rw [rowsL, hj, if_neg (by simp), List.length_drop, List.length_nil] at h1; omega
    refine W_block ?_
    refine W_seq ?_
    refine W_region ?_
    refine WR_val rfl (rn_move) ?_
    refine WR_ent rfl (rn_call (by kernel_rfl) rfl) (joinNotW q m cm lr wr (hsr.new hBr) (by omega) hj) ?_
    rintro _ w11 ⟨rfl, hb11⟩
    replace hBr := hBr.acc hb11
    refine WR_val rfl (rn_move) ?_
    refine WR_val rfl (rn_extract rfl rfl) ?_
    refine WR_val rfl (rn_extract rfl rfl) ?_
    refine WR_val rfl (rn_extract rfl rfl) ?_
    refine WR_val rfl (rn_extract rfl rfl) ?_
    refine WR_mk rfl (mk_alloc ([Value.int .u64 0, Value.int .i64 0]) (by kernel_rfl) (fun g4 w4 hg4 hr4 hb4 => ?_))
    have ge_hBr_g4 := Nat.le_trans hBr.size hg4
    replace hBr := hBr.acc hb4
    refine WR_sk rfl (sk_storeA 2 (_) rfl rfl hr4 (by kernel_rfl) (by first | assumption | (simp; done) | (simp [bv_length, *]; done)) (by first | assumption | (simp; done) | (simp [bv_length, *]; done) | rfl) (by first | exact bv_one _ | assumption | (simp [Value.oneCell']; done)) (fun w901 hr4 ho901 => ?_))
    replace hBr := ho901.below hBr ge_hBr_g4
    refine WR_val rfl (rn_assign) ?_
    refine WR_val rfl (rn_assign) ?_
    refine WR_val rfl (rn_assign) ?_
    refine WR_nil ?_
    refine thenN ?_
    refine W_seq ?_
    refine W_seq ?_
    refine W_region ?_
    refine WR_val rfl (rn_move) ?_
    refine WR_val rfl (rn_neq rfl rfl) ?_
    refine WR_val rfl (rn_move) ?_
    refine WR_tp 18 rfl ((by decide)) ?_
    refine WR_no rfl rfl ?_
    refine WR_no rfl rfl ?_
    refine WR_no rfl rfl ?_
    refine WR_no rfl rfl ?_
    refine WR_no rfl rfl ?_
    refine WR_val rfl (rn_pick_t rfl) ?_
    refine WR_nil ?_
    refine thenN ?_
    refine W_t rfl ?_
    refine W_ret ?_
    refine thenR ?_
    refine blockR ?_
    refine loopR ?_
    refine blockR ?_
    refine ret_ret [] trivial ?_
    exact Or.inl (hkR ▸ hJ _ _ _ hJk hBr)
  | true =>
    have hjf := join_facts hj
    have hnd := hjf.2.2 hlr
    have hobt : ∃ z, fu = z + 1 := ⟨fu - 1, by omega⟩
    obtain ⟨fu, rfl⟩ := hobt
    rw [rowsL, hj, if_pos rfl] at hdr
    have hkl : k < R.length := by
      have h1 := congrArg List.length hdr
      rw [List.length_drop, List.length_cons] at h1; omega
    have hRk : R[k]? = some ⟨hCount (halfAt lr 0), hNum (halfAt lr 0), joinB lr⟩ := by
      have h1 := congrArg (fun z => z[0]?) hdr
      simpa [List.getElem?_drop] using h1
    have hdr2 : R.drop (k + 1) = rowsL fu (lr.drop (128 * needN (joinB lr).length)) (m - needN (joinB lr).length) := by
      have h1 := congrArg (List.drop 1) hdr
      rw [List.drop_drop] at h1
      exact h1
    have hj2 := joinYesW q m cm lr
    generalize hCount (halfAt lr 0) = C at *
    generalize hNum (halfAt lr 0) = NN at *
    generalize joinB lr = JB at *
    generalize needN JB.length = ND at *
    refine W_block ?_
    refine W_seq ?_
    refine W_region ?_
    refine WR_val rfl (rn_move) ?_
    refine WR_ent rfl (rn_call (by kernel_rfl) rfl) (hj2 wr (hsr.new hBr) (by omega) hj) ?_
    rintro _ w11 ⟨sp, rfl, hsp, hb11⟩
    replace hBr := hBr.acc hb11
    have hBs := Below.refl (w11).heap.size w11
    refine WR_val rfl (rn_move) ?_
    refine WR_val rfl (rn_extract rfl rfl) ?_
    refine WR_val rfl (rn_extract rfl rfl) ?_
    refine WR_val rfl (rn_extract rfl rfl) ?_
    refine WR_val rfl (rn_extract rfl rfl) ?_
    refine WR_mk rfl (mk_alloc ([Value.int .u64 0, Value.int .i64 0]) (by kernel_rfl) (fun g4 w4 hg4 hr4 hb4 => ?_))
    have ge_hBr_g4 := Nat.le_trans hBr.size hg4
    have ge_hBs_g4 := Nat.le_trans hBs.size hg4
    replace hBr := hBr.acc hb4
    replace hBs := hBs.acc hb4
    refine WR_sk rfl (sk_storeA 2 (_) rfl rfl hr4 (by kernel_rfl) (by first | assumption | (simp; done) | (simp [bv_length, *]; done)) (by first | assumption | (simp; done) | (simp [bv_length, *]; done) | rfl) (by first | exact bv_one _ | assumption | (simp [Value.oneCell']; done)) (fun w902 hr4 ho902 => ?_))
    replace hBr := ho902.below hBr ge_hBr_g4
    replace hBs := ho902.below hBs ge_hBs_g4
    refine WR_val rfl (rn_assign) ?_
    refine WR_val rfl (rn_assign) ?_
    refine WR_val rfl (rn_assign) ?_
    refine WR_nil ?_
    refine thenN ?_
    refine W_seq ?_
    refine W_seq ?_
    refine W_region ?_
    refine WR_val rfl (rn_move) ?_
    refine WR_val rfl (rn_neq rfl rfl) ?_
    refine WR_val rfl (rn_move) ?_
    refine WR_fp 18 rfl ((by simp)) ?_
    refine WR_yes rfl ?_
    refine WR_val rfl (rn_move) ?_
    refine WR_yes rfl ?_
    refine WR_val rfl (rn_load rfl (Ld.rowA (k := 2) hr4 (by kernel_rfl) (by kernel_rfl) (by first | (simp; done) | (simp [bv_length, *]; done) | assumption))) ?_
    refine WR_yes rfl ?_
    refine WR_val rfl (rn_move) ?_
    refine WR_yes rfl ?_
    have hYk := hy k _ w902 hkl ⟨_, hRk, sp, rfl, hsp.below hBs (Nat.le_refl _)⟩ (hJ _ _ _ hJk hBr)
    refine WR_yield (vl := [.agg #[.int .u64 (C : Int), .int .i64 (NN : Int)], .slice sp JB.length JB.length]) rfl rfl hYk ?_
    have hdz := sl_dropZ hsm hnd.1 hcm
    have hdl : (lr.drop (128 * ND)).length = (m - ND) * 128 := by rw [List.length_drop, hlr]; omega
    replace hdz : SlAt W (if cm = ND then q else q.map (·.add (ND * 128))) (m - ND) 128 (bv (lr.drop (128 * ND))) := by rw [Nat.mul_comm 128 ND, bv_drop]; exact hdz
    rintro e wy (⟨rfl, hJy, hky, hsy⟩ | ⟨rfl, hJxy⟩)
    · refine ⟨_, rfl, ?_⟩
      refine WR_yes rfl ?_
      refine WR_val rfl (rn_not rfl) ?_
      refine WR_val rfl (rn_pick_f rfl) ?_
      refine WR_nil ?_
      refine thenN ?_
      refine W_f rfl ?_
      refine W_skip ?_
      refine thenN ?_
      refine W_region ?_
      refine WR_val rfl (rn_move) ?_
      refine WR_val rfl (rn_move) ?_
      refine WR_val rfl (rn_sliceSl (e := 45) (sz := 128) ND m cm (by kernel_rfl) rfl ⟨_, _, rfl, rfl⟩ rfl rfl (by simp) (by omega) (by omega) (by omega)) ?_
      refine WR_val rfl (rn_assign) ?_
      refine WR_nil ?_
      refine blockN ?_
      refine loopN ⟨(k + 1, m - ND, cm - ND, if cm = ND then q else q.map (·.add (ND * 128)), lr.drop (128 * ND)), by show m - ND < m; omega, ⟨rfl, rfl, rfl, rfl⟩, by show k + 1 ≤ _; omega, by show m - ND ≤ cm - ND; omega, by show m - ND ≤ n; omega, ⟨fu, by show m - ND ≤ fu; omega, hdr2⟩, hdz, fun b o e h => ?_, hJy, fun x hx => ?_, ?_⟩
      · have hpos : 0 < m - ND := h
        have e : (if cm = ND then q else q.map (·.add (ND * 128))) = some ⟨b, o, none⟩ := e
        rw [if_neg (by omega)] at e
        have hobt := hsm.some (by omega)
        obtain ⟨b2, o2, e2, _⟩ := hobt
        rw [e2, Option.map_some, Addr.add_lit] at e
        cases e
        exact hqa _ _ e2 (by omega)
      · have hxx : x < wr.heap.size := by
          simp only [List.mem_cons, List.not_mem_nil, or_false] at hx
          have h1 := r1W.lt
          rcases hx with rfl | rfl <;> omega
        rw [hky x hx, hBr.block x hxx, hkp x hx]
      · have := hBr.size; omega
    · refine ⟨_, rfl, ?_⟩
      refine WR_yes rfl ?_
      refine WR_val rfl (rn_not rfl) ?_
      refine WR_val rfl (rn_pick_f rfl) ?_
      refine WR_nil ?_
      refine thenN ?_
      refine W_t rfl ?_
      refine W_ret ?_
      refine thenR ?_
      refine blockR ?_
      refine loopR ?_
      refine blockR ?_
      refine ret_ret [] trivial ?_
      exact Or.inr hJxy
set_option maxRecDepth 20000 in
theorem rows73 (l : List UInt8) (ga oa : Nat) (n cp : Nat) (w : World) (h : SlAt w (some ⟨ga, oa, none⟩) n 128 (bv l)) (hn : n ≤ 1000000) (h0n : 0 < n) (hcn : n ≤ cp) :
    Calls Tryz.prog 69 [.slice (some ⟨ga, oa, none⟩) n cp].toArray w (Ret fun v w' => ∃ g1, v = .func (.func 88) #[] [.pointer (some ⟨g1, 0, none⟩)].toArray ∧ g1 < w'.heap.size ∧ w.heap.size ≤ g1 ∧ Below w.heap.size w w' ∧
      SeqU Tryz.prog 88 [.pointer (some ⟨g1, 0, none⟩)] (rowsL n l n).length (RowV (rowsL n l n)) [g1, ga] w') := by
  have hB := Below.refl w.heap.size w
  refine calls_W (fn := Tryz.f69) (rs := [.tmp 2]) (n := 4) Tryz.func69 rfl rfl Tryz.ntmps69 (by kernel_rfl) rfl ?_
  refine W_seq ?_
  refine W_region ?_
  refine WR_mk rfl (mk_box ([_]) rfl (fun g1 w1 hg1 hr1 hb1 => ?_))
  have ge_hB_g1 := Nat.le_trans hB.size hg1
  replace hB := hB.acc hb1
  refine WR_val rfl (rn_assign) ?_
  refine WR_nil ?_
  refine thenN ?_
  refine W_seq ?_
  refine W_region ?_
  refine WR_val rfl (rn_makeFunc) ?_
  refine WR_val rfl (rn_assign) ?_
  refine WR_nil ?_
  refine thenN ?_
  refine W_ret ?_
  refine ret_ret [_] ⟨rfl, trivial⟩ ?_
  have hg := hB.size
  exact ⟨_, rfl, hr1.lt, by omega, hB, rowsSeq l _ ga oa n cp _ hn h0n hcn hr1 (h.below hB (Nat.le_refl _))⟩
theorem join_short {l : List UInt8} {n : Nat} (hj : joinIs l n = true) : (joinB l).length ≤ 32768 := by
  rw [joinIs, Bool.and_eq_true, Bool.and_eq_true] at hj
  have h3 := hj.2
  rw [joinOk, Bool.and_eq_true, Bool.and_eq_true, Bool.and_eq_true] at h3
  have h8 := of_decide_eq_true h3.1.1.2
  rw [joinB, List.length_take]; omega
theorem rowsL_short : ∀ (f : Nat) (l : List UInt8) (n : Nat) (r : RowD'), r ∈ rowsL f l n → r.b.length ≤ 32768
  | 0, l, n, r, h => by cases h
  | f + 1, l, n, r, h => by
    rw [rowsL] at h
    split at h
    · rename_i hj
      rcases List.mem_cons.1 h with rfl | h
      · exact join_short hj
      · exact rowsL_short f _ _ r h
    · cases h
theorem rowsL_len : ∀ (f : Nat) (l : List UInt8) (n : Nat), (rowsL f l n).length ≤ f
  | 0, l, n => Nat.le_refl 0
  | f + 1, l, n => by
    rw [rowsL]
    split
    · rw [List.length_cons]; have := rowsL_len f (l.drop (128 * needN (joinB l).length)) (n - needN (joinB l).length); omega
    · simp
end Go.Proofs.YtkkgahgpemepeaaGreat
namespace Go.Proofs.YtkkgahgpemepeaaGreat
open Go Go.RowKit Coup
structure RlsAt (w : World) (lo : Nat) (o : Option Nat) (vs : List Value) (L : List Rec) : Prop where
  len : vs.length = L.length
  at_ : ∀ (i : Nat) l, L[i]? = some l → ∃ b off c, vs[i]? = some (.slice (some ⟨b, off, none⟩) l.length c) ∧ SlAt w (some ⟨b, off, none⟩) l.length 513 (chsV l) ∧ b < w.heap.size ∧ some b ≠ o ∧ l.length ≤ c ∧ lo ≤ b
namespace RlsAt
variable {w w' : World} {lo : Nat} {o : Option Nat} {vs : List Value} {L : List Rec}
theorem nil (w : World) (lo : Nat) (o : Option Nat) : RlsAt w lo o [] [] := ⟨rfl, fun i l h => by simp at h⟩
theorem kp {M : List Nat} (h : RlsAt w lo o vs L) (k : Kp M w w') (hM : ∀ g, g ∈ M → w.heap.size ≤ g ∨ o = some g ∨ g < lo) : RlsAt w' lo o vs L := ⟨h.len, fun i l hl => by
  obtain ⟨b, off, c, h1, h2, h3, h4, h5⟩ := h.at_ i l hl
  refine ⟨b, off, c, h1, h2.kpd k fun b' o' e hm => ?_, Nat.lt_of_lt_of_le h3 k.size, h4, h5⟩
  cases e
  rcases hM b hm with e | e | e
  · omega
  · exact h4 e.symm
  · omega⟩
theorem new (h : RlsAt w lo o vs L) (hb : Below w.heap.size w w') : RlsAt w' lo o vs L := h.kp (M := []) (Kp.of_below hb) (by simp)
theorem only {g : Nat} (h : RlsAt w lo o vs L) (ho : Only g w w') (hg : g < lo) : RlsAt w' lo o vs L := h.kp (Kp.of_only ho) fun b hb => by rw [List.mem_singleton.1 hb]; exact .inr (.inr hg)
theorem soft {B : Nat} (h : RlsAt w lo o vs L) (k : Soft B w w') : RlsAt w' lo o vs L := ⟨h.len, fun i l hl => by
  obtain ⟨b, off, c, h1, h2, h3, h4⟩ := h.at_ i l hl
  exact ⟨b, off, c, h1, h2.soft k, Nat.lt_of_lt_of_le h3 k.size, h4⟩⟩
theorem grow {v v' : Value} (h : RlsAt w lo v.ownBlock vs L) (hg : w.grownBy w' v.ownBlock) (hf : ∀ g, v'.ownBlock = some g → v.ownBlock = some g ∨ w.heap.size ≤ g) : RlsAt w' lo v'.ownBlock vs L := ⟨h.len, fun i l hl => by
  obtain ⟨b, off, c, h1, h2, h3, h4, h5⟩ := h.at_ i l hl
  refine ⟨b, off, c, h1, h2.kpd (Kp.of_grown hg) fun b' o' e hm => ?_, Nat.lt_of_lt_of_le h3 hg.size, fun e => (hf b e.symm).elim (fun e' => h4 e'.symm) (fun e' => by omega), h5⟩
  cases e
  simp only [Option.mem_toList] at hm
  exact h4 hm.symm⟩
theorem snoc {b off c : Nat} {l : Rec} (h : RlsAt w lo o vs L) (h2 : SlAt w (some ⟨b, off, none⟩) l.length 513 (chsV l)) (h3 : b < w.heap.size) (h4 : some b ≠ o) (h5 : l.length ≤ c) (h6 : lo ≤ b) : RlsAt w lo o (vs ++ [.slice (some ⟨b, off, none⟩) l.length c]) (L ++ [l]) :=
  ⟨by simp [h.len], fun i l' hl => by
    by_cases hi : i < L.length
    · rw [List.getElem?_append_left hi] at hl
      obtain ⟨b', off', c', e1, e2, e3, e4, e5⟩ := h.at_ i l' hl
      exact ⟨b', off', c', by rw [List.getElem?_append_left (by rw [h.len]; exact hi)]; exact e1, e2, e3, e4, e5⟩
    · have hi' : i = L.length := by
        have := (List.getElem?_eq_some_iff.1 hl).1
        simp at this; omega
      subst hi'
      simp at hl
      subst hl
      exact ⟨b, off, c, by rw [← h.len]; simp, h2, h3, h4, h5, h6⟩⟩
end RlsAt
def AllZ (p : Option Addr) (S : List Rec) : World → List Nat → Prop := fun w C => (∀ b ∈ C, b < w.heap.size) ∧ ∃ vs, SlAt w p S.length 1 vs ∧ (0 < S.length → ∀ b o, p = some ⟨b, o, none⟩ → b ∈ C) ∧
  ∀ (i : Nat) r, S[i]? = some r → ∃ b off c, vs[i]? = some (.slice (some ⟨b, off, none⟩) r.length c) ∧ SlAt w (some ⟨b, off, none⟩) r.length 513 (chsV r) ∧ b ∈ C
theorem sl_kp0 {M : List Nat} {w w' : World} {p : Option Addr} {m sz : Nat} {cs : List Value} (h : SlAt w p m sz cs) (k : Kp M w w') (hM : 0 < m → ∀ b o, p = some ⟨b, o, none⟩ → b ∉ M) : SlAt w' p m sz cs := by
  by_cases h0 : 0 < m
  · exact h.kpd k (hM h0)
  · exact ⟨h.len, h.max, fun h1 => absurd h1 (by rw [show m = 0 by omega, Nat.zero_mul]; exact Nat.lt_irrefl 0)⟩
instance (p : Option Addr) (S : List Rec) : Thing (AllZ p S) :=
  ⟨fun {w w' B M} ⟨h1, vs, h2, h3, h4⟩ k hM => ⟨fun b hb => Nat.lt_of_lt_of_le (h1 b hb) k.size, vs, sl_kp0 h2 k fun h0 b o e => hM b (h3 h0 b o e), h3, fun i r hr => by
    obtain ⟨b, off, c, e1, e2, e3⟩ := h4 i r hr
    exact ⟨b, off, c, e1, e2.kpd k (fun b' o' e => by cases e; exact hM _ e3), e3⟩⟩, fun h b hb => h.1 b hb⟩
def AndZ (Y Z : World → List Nat → Prop) : World → List Nat → Prop := fun w C => ∃ C1 C2, C = C1 ++ C2 ∧ Y w C1 ∧ Z w C2
instance (Y Z : World → List Nat → Prop) [hY : Thing Y] [hZ : Thing Z] : Thing (AndZ Y Z) :=
  ⟨fun {w w' B M} ⟨C1, C2, e, h1, h2⟩ k hM => ⟨C1, C2, e, hY.kpd h1 k fun b hb => hM b (by rw [e]; exact List.mem_append_left _ hb), hZ.kpd h2 k fun b hb => hM b (by rw [e]; exact List.mem_append_right _ hb)⟩,
   fun {w B} ⟨C1, C2, e, h1, h2⟩ b hb => by
    rw [e] at hb
    exact (List.mem_append.1 hb).elim (hY.lt h1 b) (hZ.lt h2 b)⟩
theorem two_add {X Y Z : World → List Nat → Prop} [hX : Thing X] [hY : Thing Y] {lo : Nat} {L M C : List Nat} {w w' : World} (h : Two X Y lo L w) (k : Kp M w w') (hM : ∀ b ∈ M, b < lo ∨ b ∈ L) (hz : Z w' C) (hC : ∀ b ∈ C, w.heap.size ≤ b) : Two X (AndZ Y Z) lo L w' := by
  obtain ⟨⟨B, E, h1, h2, h3, h4⟩, h5, h6⟩ := h
  have hXl := fun b hb => hX.lt h1 b hb
  exact ⟨⟨B, E ++ C, hX.kpd h1 k fun b hb hm => (hM b hm).elim (fun hl => absurd (h3 b hb).1 (Nat.not_le.2 hl)) (h3 b hb).2.2,
    ⟨E, C, rfl, hY.kpd h2 k fun b hb hm => (hM b hm).elim (fun hl => absurd (h4 b hb).1 (Nat.not_le.2 hl)) (h4 b hb).2, hz⟩,
    fun b hb => ⟨(h3 b hb).1, fun hm => (List.mem_append.1 hm).elim (h3 b hb).2.1 fun hc => absurd (hXl b hb) (Nat.not_lt.2 (hC b hc)), (h3 b hb).2.2⟩,
    fun b hb => (List.mem_append.1 hb).elim (h4 b) fun hc => ⟨Nat.le_trans h5 (hC b hc), fun hm => absurd (h6 b hm) (Nat.not_lt.2 (hC b hc))⟩⟩, Nat.le_trans h5 k.size, fun b hb => Nat.lt_of_lt_of_le (h6 b hb) k.size⟩
def logB (D : Dk) (n : Nat) : List UInt8 := ((List.range n).map fun i => readD D (1 + i)).flatten
theorem logB_succ (D : Dk) (n : Nat) : logB D (n + 1) = logB D n ++ readD D (1 + n) := by simp [logB, List.range_succ]
theorem readD_len {D : Dk} (h : DkOk D) {i : Nat} (hi : i < D.V.length) : (readD D i).length = 128 := lastS_ok (ver_ok h hi).2.1
def okRow (s c k : Nat) (r : RowD') : Option Rec := if r.nn = k ∧ s ≤ r.c ∧ r.c ≤ c then ofR r.b else none
def recsL (s c : Nat) : Nat → List RowD' → List Rec
  | _, [] => []
  | k, r :: R => match okRow s c k r with
    | some x => x :: recsL s c (k + 1) R
    | none => []
def atS (S : List Rec) : Nat := (S.map fun r => needN (516 * r.length)).sum
def recsOf (D : Dk) (G : Lg) : List Rec := recsL G.since G.count 0 (rowsL G.size (logB D G.size) G.size)
end Go.Proofs.YtkkgahgpemepeaaGreat
namespace Go.Proofs.YtkkgahgpemepeaaGreat
open Go Go.RowKit Coup
structure RdAt (w0 : World) (B x g g1 g2 cc si n : Nat) (de : Bool) (T : List Rec) (W : World) : Prop where
  rx : row W x [.int .u64 (cc : Int), .int .u64 (si : Int), .pointer (some ⟨g, 0, none⟩), .int .i64 (n : Int), .int .i64 ((T.length : Nat) : Int), .int .i64 ((atS T : Nat) : Int), .bool de] 81
  r1 : row W g1 [.pointer (some ⟨x, 0, none⟩)] 28
  ow : ∃ v vs, row W g2 [v] 29 ∧ ownsAt W B 60 1 v T.length vs ∧ RlsAt W B v.ownBlock vs T
  kb : Kp [x] w0 W
theorem RdAt.soft {w0 W W' : World} {B B' x g g1 g2 cc si n : Nat} {de : Bool} {T : List Rec} (h : RdAt w0 B x g g1 g2 cc si n de T W) (hs : Soft B' W W') (hB : w0.heap.size ≤ B') : RdAt w0 B x g g1 g2 cc si n de T W' :=
  ⟨h.rx.soft hs, h.r1.soft hs, let ⟨v, vs, h1, h2, h3⟩ := h.ow; ⟨v, vs, h1.soft hs, h2.soft hs, h3.soft hs⟩, h.kb.soft hs hB⟩
theorem all_of {w0 W : World} {B e : Nat} {p : Option Addr} {c : Nat} {vs : List Value} {o : Option Nat} {S : List Rec} (hv : ownsAt W B e 1 (.slice p S.length c) S.length vs) (hr : RlsAt W B o vs S) (hB : w0.heap.size ≤ B) :
    AllZ p S W (List.range' w0.heap.size (W.heap.size - w0.heap.size)) := by
  have hC : ∀ b, w0.heap.size ≤ b → b < W.heap.size → b ∈ List.range' w0.heap.size (W.heap.size - w0.heap.size) := fun b h1 h2 => List.mem_range'_1.2 ⟨h1, by omega⟩
  refine ⟨fun b hb => by have := List.mem_range'_1.1 hb; omega, vs, hv.sl, fun h0 b o e => ?_, fun i r hi => ?_⟩
  · subst e
    have := hv.lt b rfl
    exact hC b (by omega) this.2
  · obtain ⟨b, off, c, h1, h2, h3, _, _, h6⟩ := hr.at_ i r hi
    exact ⟨b, off, c, h1, h2, hC b (by omega) h3⟩
theorem own_cells {w : World} {base e sz m b : Nat} {v : Value} {xs : List Value} (h : ownsAt w base e sz v m xs) (hb : v.ownBlock = some b) : ∃ o : Obj, w.heap[b]? = some o ∧ o.isCells = true := by
  rcases h.2 with hn | ⟨g, off, cap, cur, rfl, hb', hgg, rest⟩
  · simp [hn, Value.ownBlock] at hb
  · cases hb; exact ⟨_, hgg, rfl⟩
theorem own_cap {w : World} {base e sz m c : Nat} {p : Option Addr} {xs : List Value} (h : ownsAt w base e sz (.slice p m c) m xs) : m ≤ c := by
  rcases h.2 with ⟨hn, _⟩ | ⟨g, off, cap, cur, he, hb', hgg, hmc, _⟩
  · cases hn; exact Nat.le_refl _
  · cases he; exact hmc
theorem recsL_none {s c k : Nat} {r : RowD'} {R : List RowD'} (h : okRow s c k r = none) : recsL s c k (r :: R) = [] := by rw [recsL, h]
theorem recsL_some {s c k : Nat} {r : RowD'} {R : List RowD'} {x : Rec} (h : okRow s c k r = some x) : recsL s c k (r :: R) = x :: recsL s c (k + 1) R := by rw [recsL, h]
theorem atS_snoc (T : List Rec) (r : Rec) : atS (T ++ [r]) = atS T + needN (516 * r.length) := by simp [atS]
theorem ofR_may {b : List UInt8} {r : Rec} (h : ofR b = some r) : 1 ≤ r.length ∧ r.length ≤ 60 := by
  unfold ofR at h
  split at h
  · rename_i hok
    cases h
    rw [ofOk, Bool.and_eq_true, Bool.and_eq_true] at hok
    have := of_decide_eq_true hok.1.2
    rwa [ofL_len]
  · cases h
section
variable {Y : World → List Nat → Prop} [Thing Y] {g x lo : Nat} {L : List Nat} {D : Dk} {G : Lg} {w : World}
set_option maxRecDepth 20000 in
set_option maxHeartbeats 2000000 in
theorem read52 (h : LgAt g x Y lo L D G w) (hok : LgOk D G) (h0 : G.num = 0) (h1 : G.at_ = 0) :
    Calls Tryz.prog 37 [.pointer (some ⟨x, 0, none⟩)].toArray w (Ret fun v w' => ∃ p c, v = .tuple #[.slice p (recsOf D G).length c, .int .i64 0] ∧ (recsOf D G).length ≤ c ∧
      LgAt g x (AndZ Y (AllZ p (recsOf D G))) lo L D { G with num := (recsOf D G).length, at_ := atS (recsOf D G) } w' ∧ LoL lo L w w') := by
  have hB := Below.refl w.heap.size w
  have hx := h.rowx
  have hxl := hx.lt
  have hge := h.ge
  have hni := h.ni
  have hfit := hok.fit
  have hszm := hok.szm
  have hsz4 := hok.sz4
  have hDk := (tOk h.two).1
  have hml : maxLen = 9223372036854775807 := by decide
  have hrec : recsOf D G = recsL G.since G.count 0 (rowsL G.size (logB D G.size) G.size) := rfl
  have hTw := fun w' (hb : Below w.heap.size w w') i => tRead (h.new hb).two i
  generalize recsOf D G = S at *
  obtain ⟨cc, si, sz, nu, at_, de⟩ := G
  dsimp only [lgV] at *
  subst h0 h1
  refine calls_W (fn := Tryz.f37) (rs := [.cell 2 29, .tmp 3]) (n := 99) Tryz.func37 rfl rfl Tryz.ntmps37 (by kernel_rfl) rfl ?_
  refine W_seq ?_
  refine W_region ?_
  refine WR_mk rfl (mk_box ([_]) rfl (fun g1 w1 hg1 hr1 hb1 => ?_))
  have ge_hB_g1 := Nat.le_trans hB.size hg1
  have lt_x_g1 : x < g1 := Nat.lt_of_lt_of_le hx.lt hg1
  replace hx := hx.new hb1
  replace hB := hB.acc hb1
  refine WR_mk rfl (mk_alloc ([Value.slice none 0 0]) (by kernel_rfl) (fun g2 w2 hg2 hr2 hb2 => ?_))
  have ge_hB_g2 := Nat.le_trans hB.size hg2
  have lt_x_g2 : x < g2 := Nat.lt_of_lt_of_le hx.lt hg2
  have lt_g1_g2 : g1 < g2 := Nat.lt_of_lt_of_le hr1.lt hg2
  replace hx := hx.new hb2
  replace hr1 := hr1.new hb2
  replace hB := hB.acc hb2
  refine WR_val rfl (rn_assign) ?_
  refine WR_nil ?_
  refine thenN ?_
  refine W_seq ?_
  refine W_region ?_
  refine WR_val rfl (rn_assign) ?_
  refine WR_nil ?_
  refine thenN ?_
  refine W_seq ?_
  refine W_seq ?_
  refine W_region ?_
  refine WR_val rfl (rn_load rfl (Ld.row1 hr1 (by kernel_rfl) rfl)) ?_
  refine WR_val rfl (rn_nilCheckP rfl) ?_
  refine WR_val rfl (rn_fieldAddr (off := 3) (by kernel_rfl) rfl) ?_
  refine WR_val rfl (rn_load rfl (Ld.row1 hx (by kernel_rfl) rfl)) ?_
  refine WR_val rfl (rn_move) ?_
  refine WR_nil ?_
  refine thenN ?_
  refine W_block ?_
  have hx2 := hx.lt
  have h12 := hr1.lt
  have h22 := hr2.lt
  have hb2 := hB.size
  refine W_loop (α := Nat × Value) (0, .slice none 0 0) (fun k => [(16, .int .i64 (k.1 : Nat)), (15, .int .i64 (sz : Int)), (4, k.2), (1, .pointer (some ⟨g1, 0, none⟩)), (2, .pointer (some ⟨g2, 0, none⟩))])
    (fun k w' => k.1 ≤ sz ∧ ownsAt w' w2.heap.size 45 128 k.2 k.1 (bv (logB D k.1)) ∧ row w' x [.int .u64 (cc : Int), .int .u64 (si : Int), .pointer (some ⟨g, 0, none⟩), .int .i64 (sz : Int), .int .i64 ((0 : Nat) : Int), .int .i64 ((0 : Nat) : Int), .bool de] 81 ∧ row w' g1 [.pointer (some ⟨x, 0, none⟩)] 28 ∧ row w' g2 [.slice none 0 0] 29 ∧ Below w.heap.size w w' ∧ w2.heap.size ≤ w'.heap.size) (fun k => sz - k.1)
    ⟨rfl, rfl, rfl, rfl, rfl, rfl⟩ ⟨Nat.zero_le _, ownsAt_nil _ _ _ _, hx, hr1, hr2, hB, Nat.le_refl _⟩ ?_
  clear hx hr1 hr2 hB
  rintro ⟨i, u⟩ f wr ⟨hi, hu, hx, hr1, hr2, hB, hsw⟩
  dsimp only at *
  have hBr := Below.refl wr.heap.size wr
  refine W_seq ?_
  refine W_region ?_
  refine WR_val rfl (rn_lss rfl rfl) ?_
  refine WR_nil ?_
  refine thenN ?_
  refine W_seq ?_
  refine W_ifp rfl (fun hlt => ?_) (fun hlt => ?_)
  ·
    refine W_skip ?_
    refine thenN ?_
    refine W_seq ?_
    refine W_block ?_
    refine W_seq ?_
    refine W_region ?_
    refine WR_val rfl (rn_move) ?_
    refine WR_val rfl (rn_assign) ?_
    refine WR_nil ?_
    refine thenN ?_
    refine W_seq ?_
    refine W_region ?_
    have hcast : ((1 + i : Nat) : Int) = 1 + (i : Int) := by omega
    have hin : inD D ((1 + i : Nat) : Int) = true := decide_eq_true (by omega)
    have hsl := readD_len hDk (i := 1 + i) (by omega)
    have hlsn := logB_succ D i
    have hex : ∃ s, readD D (1 + i) = s := ⟨_, rfl⟩
    obtain ⟨s, hs⟩ := hex
    rw [hs] at hsl hlsn
    refine WR_val rfl (rn_load rfl (Ld.row1 hr1 (by kernel_rfl) rfl)) ?_
    refine WR_val rfl (rn_nilCheckP rfl) ?_
    refine WR_val rfl (rn_fieldAddr (off := 2) (by kernel_rfl) rfl) ?_
    refine WR_val rfl (rn_load rfl (Ld.row1 hx (by kernel_rfl) rfl)) ?_
    refine WR_val rfl (rn_move) ?_
    refine WR_val rfl (rn_add rfl rfl (Coup.w64 (by omega))) ?_
    have hrd := hTw _ hB ((1 + i : Nat) : Int)
    rw [hin, if_pos rfl, if_pos rfl, Int.toNat_natCast, hs, hcast] at hrd
    refine WR_ent rfl (rn_call (by kernel_rfl) rfl) (hrd) ?_
    rintro _ w26 ⟨rfl, hb26⟩
    replace hx := hx.new hb26
    replace hr1 := hr1.new hb26
    replace hr2 := hr2.new hb26
    replace hB := hB.acc hb26
    replace hBr := hBr.acc hb26
    refine WR_val rfl (rn_move) ?_
    refine WR_val rfl (rn_extract rfl rfl) ?_
    refine WR_val rfl (rn_extract rfl rfl) ?_
    refine WR_mk rfl (mk_alloc (List.replicate 128 (Value.int .u8 0)) (by kernel_rfl) (fun g6 w6 hg6 hr6 hb6 => ?_))
    have ge_hB_g6 := Nat.le_trans hB.size hg6
    have ge_hBr_g6 := Nat.le_trans hBr.size hg6
    have lt_x_g6 : x < g6 := Nat.lt_of_lt_of_le hx.lt hg6
    have lt_g1_g6 : g1 < g6 := Nat.lt_of_lt_of_le hr1.lt hg6
    have lt_g2_g6 : g2 < g6 := Nat.lt_of_lt_of_le hr2.lt hg6
    replace hx := hx.new hb6
    replace hr1 := hr1.new hb6
    replace hr2 := hr2.new hb6
    replace hB := hB.acc hb6
    replace hBr := hBr.acc hb6
    refine WR_sk rfl (sk_storeA 128 (bv s) rfl rfl hr6 (by kernel_rfl) (by first | assumption | (simp; done) | (simp [bv_length, *]; done)) (by first | assumption | (simp; done) | (simp [bv_length, *]; done) | rfl) (by first | exact bv_one _ | assumption | (simp [Value.oneCell']; done)) (fun w901 hr6 ho901 => ?_))
    replace hx := hx.only ho901 (Nat.ne_of_lt lt_x_g6)
    replace hr1 := hr1.only ho901 (Nat.ne_of_lt lt_g1_g6)
    replace hr2 := hr2.only ho901 (Nat.ne_of_lt lt_g2_g6)
    replace hB := ho901.below hB ge_hB_g6
    replace hBr := ho901.below hBr ge_hBr_g6
    refine WR_val rfl (rn_assign) ?_
    refine WR_nil ?_
    refine thenN ?_
    refine W_seq ?_
    refine W_seq ?_
    refine W_region ?_
    refine WR_val rfl (rn_move) ?_
    refine WR_val rfl (rn_neq rfl rfl) ?_
    refine WR_nil ?_
    refine thenN ?_
    refine W_fp rfl ((by simp)) ?_
    refine W_skip ?_
    refine thenN ?_
    refine W_region ?_
    refine WR_val rfl (rn_move) ?_
    refine WR_val rfl (rn_load rfl (Ld.rowA (k := 128) hr6 (by kernel_rfl) (by kernel_rfl) (by rw [bv_length, hsl]))) ?_
    refine WR_mk rfl (mk_one (e := 45) (.agg (bv s).toArray) (bv s) (List.replicate 128 (Value.int .u8 0)) 128 (by kernel_rfl) (by kernel_rfl) rfl rfl (by first | rfl | (simp; done) | (simp [bv_length, *]; done)) ⟨by decide, by decide⟩ (fun g34 w34 hg34 hr34 hb34 => ?_))
    have ge_hB_g34 := Nat.le_trans hB.size hg34
    have ge_hBr_g34 := Nat.le_trans hBr.size hg34
    have lt_x_g34 : x < g34 := Nat.lt_of_lt_of_le hx.lt hg34
    have lt_g1_g34 : g1 < g34 := Nat.lt_of_lt_of_le hr1.lt hg34
    have lt_g2_g34 : g2 < g34 := Nat.lt_of_lt_of_le hr2.lt hg34
    have lt_g6_g34 : g6 < g34 := Nat.lt_of_lt_of_le hr6.lt hg34
    replace hx := hx.new hb34
    replace hr1 := hr1.new hb34
    replace hr2 := hr2.new hb34
    replace hr6 := hr6.new hb34
    replace hB := hB.acc hb34
    replace hBr := hBr.acc hb34
    have hs34 := hr34.slA (m := 1) (sz := 128) (by rw [bv_length, hsl]) (by omega)
    replace hu := hu.new hBr
    have hbz := hBr.size
    have sz_hB_35 := hB.size
    refine WR_mk rfl (mk_append (e := 45) (sz := 128) (bytes := 128) (z := .agg (List.replicate 128 (Value.int .u8 0)).toArray) (by kernel_rfl) rfl (by kernel_rfl) rfl (by decide) rfl hu rfl hs34 (bv_one _) (by unfold maxLen; omega) (by omega) (fun hm0 => by omega) (fun v35 w35 hv35 hgr35 hfr35 => ?_))
    replace hx := hx.own hu hgr35 (by omega)
    replace hr1 := hr1.own hu hgr35 (by omega)
    replace hr2 := hr2.own hu hgr35 (by omega)
    replace hB := hB.own hu hgr35 (by omega)
    refine WR_val rfl (rn_assign) ?_
    refine WR_nil ?_
    refine blockN ?_
    refine thenN ?_
    refine W_region ?_
    refine WR_val rfl (rn_add rfl rfl (Coup.w64 (by omega))) ?_
    refine WR_val rfl (rn_move) ?_
    refine WR_nil ?_
    rw [← bv_append, ← hlsn] at hv35
    refine loopN ⟨(i + 1, v35), by show _ - (i + 1) < _ - i; omega, ⟨by go_num, rfl, rfl, rfl, rfl, rfl⟩, by show i + 1 ≤ _; omega, hv35, hx, hr1, hr2, hB, by have := hgr35.size; have := hBr.size; omega⟩
  ·
    have him : i = sz := by omega
    subst him
    have hobt := hu.form' (by omega)
    obtain ⟨ga, oa, ca, rfl, hga1, hga2, hca⟩ := hobt
    have hall := hu.sl
    refine W_exit ?_
    refine thenX ?_
    refine loopX ?_
    refine blockX ?_
    refine thenN ?_
    refine W_seq ?_
    refine W_seq ?_
    refine W_region ?_
    refine WR_val rfl (rn_move) ?_
    refine WR_ent rfl (rn_call (by kernel_rfl) rfl) (rows73 (logB D i) ga oa i ca wr hall (by omega) (by omega) hca) ?_
    rintro _ w38 ⟨gr, rfl, hgr, hgr2, hb38, hseq⟩
    replace hx := hx.new hb38
    replace hr1 := hr1.new hb38
    replace hr2 := hr2.new hb38
    replace hB := hB.acc hb38
    refine WR_nil ?_
    refine thenN ?_
    refine W_block ?_
    have hRs := rowsL_short i (logB D i) i
    have hRl := rowsL_len i (logB D i) i
    have hobt : ∃ R, rowsL i (logB D i) i = R := ⟨_, rfl⟩
    obtain ⟨R, hR⟩ := hobt
    rw [hR] at hseq hrec hRs hRl
    have hbs := hB.size
    have hobt : ∃ b, (w38).heap.size = b := ⟨_, rfl⟩
    obtain ⟨BB, hBB⟩ := hobt
    have hg1l := hr1.lt
    have hg2l := hr2.lt
    have hRd : RdAt w BB x g g1 g2 cc si i de [] w38 := ⟨hx, hr1, ⟨_, [], hr2, ownsAt_nil _ _ _ _, RlsAt.nil _ _ _⟩, Kp.of_below' hB⟩
    refine W_rangeFuncU (ps := [39, 40]) (m := R.length) (V := RowV R) (ks := [gr, ga]) (fun _ h => h) rfl (by kernel_rfl) hseq (Below.refl _ _) (by rintro k v W ⟨r, _, sp, rfl, _⟩; rfl) (by kernel_rfl) (by simp)
      (by intro y hy; simp only [List.mem_cons, List.not_mem_nil, or_false] at hy; rcases hy with rfl | rfl <;> omega)
      (fun k W => k ≤ R.length ∧ ∃ T : List Rec, T.length = k ∧ atS T ≤ 1000 * k ∧ S = T ++ recsL si cc k (R.drop k) ∧ RdAt w BB x g g1 g2 cc si i de T W)
      (fun c W => c = .exit 2 ∧ RdAt w BB x g g1 g2 cc si i de S W) (fun k W W' ⟨h1, T, h2, ha, h3, h4⟩ hs => ⟨h1, T, h2, ha, h3, h4.soft hs hbs⟩) (fun c W W' ⟨h1, h2⟩ hs => ⟨h1, h2.soft hs hbs⟩) ⟨Nat.zero_le _, [], rfl, Nat.le_refl _, hrec, hRd⟩ ?_ ?_ ?_
    · intro l k v W1 hkR hv hI hsz
      obtain ⟨hk, T, hTk, hat, hST, hT⟩ := hI
      obtain ⟨r, hRk, sp, rfl, hsp⟩ := hv
      have hrs := hRs r (List.mem_of_getElem? hRk)
      have hdr : R.drop k = r :: R.drop (k + 1) := by rw [List.drop_eq_getElem_cons hkR]; congr 1; exact Option.some.inj ((List.getElem?_eq_getElem hkR).symm.trans hRk)
      rw [hdr] at hST
      have hBa := Below.refl W1.heap.size W1
      refine W_seq ?_
      refine W_region ?_
      refine WR_mk rfl (mk_alloc ([Value.int .u64 0, Value.int .i64 0]) (by kernel_rfl) (fun g8 w8 hg8 hr8 hb8 => ?_))
      have ge_hBa_g8 := Nat.le_trans hBa.size hg8
      replace hBa := hBa.acc hb8
      refine WR_sk rfl (sk_storeA 2 ([.int .u64 (r.c : Int), .int .i64 (r.nn : Int)]) rfl rfl hr8 (by kernel_rfl) (by first | assumption | (simp; done) | (simp [bv_length, *]; done)) (by first | assumption | (simp; done) | (simp [bv_length, *]; done) | rfl) (by first | exact bv_one _ | assumption | (simp [Value.oneCell']; done)) (fun w902 hr8 ho902 => ?_))
      replace hBa := ho902.below hBa ge_hBa_g8
      refine WR_nil ?_
      refine thenN ?_
      refine W_region ?_
      refine WR_val rfl (rn_assign) ?_
      refine WR_nil ?_
      refine ⟨rfl, hBa, fun W2 hs => ?_⟩
      have hr8 := hr8.soft hs
      have hsp := (hsp.new hBa).soft hs
      have hsz2 := hs.size
      have hsz1 := hBa.size
      have hT2 : RdAt w BB x g g1 g2 cc si i de T W2 := RdAt.soft (w0 := w) ⟨hT.rx.new hBa, hT.r1.new hBa, let ⟨v, vs, q1, q2, q3⟩ := hT.ow; ⟨v, vs, q1.new hBa, q2.new hBa, q3.new hBa⟩, hT.kb.trans (Kp.of_below' hBa)⟩ hs hbs
      obtain ⟨hx, hr1, ⟨v, vs, hr2, hu, hrl⟩, hkb⟩ := hT2
      obtain ⟨pu, cu, rfl⟩ := hu.form
      have hBi := Below.refl W2.heap.size W2
      have hof := fun w' (h : SlAt w' sp r.b.length 1 (bv r.b)) => of13 r.b sp r.b.length r.b.length w' h (Nat.le_refl _) (by omega)
      cases hrb : ofR r.b with
      | none =>
        have hS2 : S = T := by rw [hST, recsL_none (by rw [okRow, hrb]; split <;> rfl), List.append_nil]
        have hof2 := fun w' (h : SlAt w' sp r.b.length 1 (bv r.b)) => (hof w' h).to fun v w2 h => (show v = .tuple #[.slice none 0 0, .int .i64 4] ∧ Below w'.heap.size w' w2 from ⟨h.1.elim (fun ⟨_, _, _, _, h1, _⟩ => by rw [hrb] at h1; cases h1) fun h => h.2, h.2⟩)
        refine W_block ?_
        refine W_seq ?_
        refine W_region ?_
        refine WR_val rfl (rn_move) ?_
        refine WR_ent rfl (rn_call (by kernel_rfl) rfl) (hof2 _ (hsp.new hBi)) ?_
        rintro _ w43 ⟨rfl, hb43⟩
        replace hr8 := hr8.new hb43
        replace hx := hx.new hb43
        replace hr1 := hr1.new hb43
        replace hBi := hBi.acc hb43
        refine WR_val rfl (rn_move) ?_
        refine WR_val rfl (rn_extract rfl rfl) ?_
        refine WR_val rfl (rn_extract rfl rfl) ?_
        refine WR_val rfl (rn_assign) ?_
        refine WR_val rfl (rn_assign) ?_
        refine WR_nil ?_
        refine thenN ?_
        refine W_seq ?_
        refine W_seq ?_
        refine W_draw' [] (by kernel_rfl) ?_
        intro w903 hb903 hS903
        replace hr8 := hr8.new hb903
        replace hx := hx.new hb903
        replace hr1 := hr1.new hb903
        replace hBi := hBi.acc hb903
        have hr8_d903 := hr8
        have hx_d903 := hx
        have hr1_d903 := hr1
        have hBi_d903 := hBi
        refine WA_take 0 (by kernel_rfl) rfl (fun _ _ => rn_move) ?_
        refine WA_take 1 (by kernel_rfl) rfl (fun _ _ => rn_neq rfl rfl) ?_
        refine WA_take 2 (by kernel_rfl) rfl (fun _ _ => rn_move) ?_
        refine WA_tp 48 rfl ((by decide)) ?_
        refine WA_skip 3 (by kernel_rfl) rfl ?_
        refine WA_skip 4 (by kernel_rfl) rfl ?_
        refine WA_skip 5 (by kernel_rfl) rfl ?_
        refine WA_skip 6 (by kernel_rfl) rfl ?_
        refine WA_skip 7 (by kernel_rfl) rfl ?_
        refine WA_skip 8 (by kernel_rfl) rfl ?_
        refine WA_skip 9 (by kernel_rfl) rfl ?_
        refine WA_take 10 (by kernel_rfl) rfl (fun _ _ => rn_pick_t rfl) ?_
        refine WA_take 11 (by kernel_rfl) rfl (fun _ _ => rn_move) ?_
        refine WA_skip 12 (by kernel_rfl) rfl ?_
        refine WA_skip 13 (by kernel_rfl) rfl ?_
        refine WA_skip 14 (by kernel_rfl) rfl ?_
        refine WA_skip 15 (by kernel_rfl) rfl ?_
        refine WA_skip 16 (by kernel_rfl) rfl ?_
        refine WA_skip 17 (by kernel_rfl) rfl ?_
        refine WA_skip 18 (by kernel_rfl) rfl ?_
        refine WA_skip 19 (by kernel_rfl) rfl ?_
        refine WA_take 20 (by kernel_rfl) rfl (fun _ _ => rn_pick_t rfl) ?_
        refine WA_take 21 (by kernel_rfl) rfl (fun _ _ => rn_move) ?_
        refine WA_skip 22 (by kernel_rfl) rfl ?_
        refine WA_skip 23 (by kernel_rfl) rfl ?_
        refine WA_skip 24 (by kernel_rfl) rfl ?_
        refine WA_skip 25 (by kernel_rfl) rfl ?_
        refine WA_skip 26 (by kernel_rfl) rfl ?_
        refine WA_skip 27 (by kernel_rfl) rfl ?_
        refine WA_skip 28 (by kernel_rfl) rfl ?_
        refine WA_skip 29 (by kernel_rfl) rfl ?_
        refine WA_take 30 (by kernel_rfl) rfl (fun _ _ => rn_pick_t rfl) ?_
        refine WA_done (by kernel_rfl) ?_
        refine thenN ?_
        refine W_t rfl ?_
        refine W_exit ?_
        refine thenX ?_
        refine blockO rfl ?_
        exact ⟨keepsFrom_of_kp (M := []) (Kp.of_below hBi) (by simp), rfl, hS2 ▸ ⟨hx, hr1, ⟨_, vs, hr2.new hBi, hu.new hBi, hrl.new hBi⟩, hkb.trans (Kp.of_below' hBi)⟩⟩
      | some rr =>
        have hof3 := fun w' (h : SlAt w' sp r.b.length 1 (bv r.b)) => (hof w' h).to fun v w2 h => (show ∃ g o c, v = .tuple #[.slice (some ⟨g, o, none⟩) rr.length c, .int .i64 0] ∧ w'.heap.size ≤ g ∧ rr.length ≤ c ∧ SlAt w2 (some ⟨g, o, none⟩) rr.length 513 (chsV rr) ∧ Below w'.heap.size w' w2 from h.1.elim (fun ⟨r2, g, o, c, h1, h2, h3, h4, h5⟩ => by rw [hrb] at h1; cases h1; exact ⟨g, o, c, h2, h3, h4, h5, h.2⟩) fun h => by rw [hrb] at h; cases h.1)
        have hrr := ofR_may hrb
        have hnw := needW_pos hrr
        have hN : needN (516 * rr.length) ≤ 1000 := by unfold needN manyN; omega
        refine W_block ?_
        refine W_seq ?_
        refine W_region ?_
        refine WR_val rfl (rn_move) ?_
        refine WR_ent rfl (rn_call (by kernel_rfl) rfl) (hof3 _ (hsp.new hBi)) ?_
        rintro _ w43 ⟨gq, oq, cq, rfl, hgq, hcq, hsq, hb43⟩
        replace hr8 := hr8.new hb43
        replace hx := hx.new hb43
        replace hr1 := hr1.new hb43
        replace hBi := hBi.acc hb43
        refine WR_val rfl (rn_move) ?_
        refine WR_val rfl (rn_extract rfl rfl) ?_
        refine WR_val rfl (rn_extract rfl rfl) ?_
        refine WR_val rfl (rn_assign) ?_
        refine WR_val rfl (rn_assign) ?_
        refine WR_nil ?_
        refine thenN ?_
        refine W_seq ?_
        refine W_seq ?_
        refine W_draw' [] (by kernel_rfl) ?_
        intro w904 hb904 hS904
        replace hr8 := hr8.new hb904
        replace hx := hx.new hb904
        replace hr1 := hr1.new hb904
        replace hsq := hsq.new hb904
        replace hBi := hBi.acc hb904
        have hr8_d904 := hr8
        have hx_d904 := hx
        have hr1_d904 := hr1
        have hsq_d904 := hsq
        have hBi_d904 := hBi
        refine WA_take 0 (by kernel_rfl) rfl (fun _ _ => rn_move) ?_
        refine WA_take 1 (by kernel_rfl) rfl (fun _ _ => rn_neq rfl rfl) ?_
        refine WA_take 2 (by kernel_rfl) rfl (fun _ _ => rn_move) ?_
        refine WA_fp 48 rfl ((by simp)) ?_
        refine WA_take 3 (by kernel_rfl) rfl (fun _ _ => rn_fieldAddr (off := 1) (by kernel_rfl) rfl) ?_
        refine WA_take 4 (by kernel_rfl) rfl (fun w' hS' => rn_load rfl (Ld.row1 (hr8_d904.kpd hS' (by first | (simp; done) | (simp; omega) | (simp [*]; done) | exact notLL (Or.inl (by omega)) | exact notLL (Or.inr (by simp)) | exact fun g hm => Nat.le_trans (by omega) (inLL hm).1 | (intro b o e; cases e; exact notLL (Or.inl (by omega))) | (intro b hm; have := (hu.lt b (Option.mem_toList.1 hm)).1; omega) | (intro b o e; cases e; intro hm; have := (hu.lt _ (Option.mem_toList.1 hm)).1; omega))) (by kernel_rfl) rfl)) ?_
        refine WA_take 5 (by kernel_rfl) rfl (fun w' hS' => rn_load rfl (Ld.row1 (hr1_d904.kpd hS' (by first | (simp; done) | (simp; omega) | (simp [*]; done) | exact notLL (Or.inl (by omega)) | exact notLL (Or.inr (by simp)) | exact fun g hm => Nat.le_trans (by omega) (inLL hm).1 | (intro b o e; cases e; exact notLL (Or.inl (by omega))) | (intro b hm; have := (hu.lt b (Option.mem_toList.1 hm)).1; omega) | (intro b o e; cases e; intro hm; have := (hu.lt _ (Option.mem_toList.1 hm)).1; omega))) (by kernel_rfl) rfl)) ?_
        refine WA_take 6 (by kernel_rfl) rfl (fun _ _ => rn_nilCheckP rfl) ?_
        refine WA_take 7 (by kernel_rfl) rfl (fun _ _ => rn_fieldAddr (off := 4) (by kernel_rfl) rfl) ?_
        refine WA_take 8 (by kernel_rfl) rfl (fun w' hS' => rn_load rfl (Ld.row1 (hx_d904.kpd hS' (by first | (simp; done) | (simp; omega) | (simp [*]; done) | exact notLL (Or.inl (by omega)) | exact notLL (Or.inr (by simp)) | exact fun g hm => Nat.le_trans (by omega) (inLL hm).1 | (intro b o e; cases e; exact notLL (Or.inl (by omega))) | (intro b hm; have := (hu.lt b (Option.mem_toList.1 hm)).1; omega) | (intro b o e; cases e; intro hm; have := (hu.lt _ (Option.mem_toList.1 hm)).1; omega))) (by kernel_rfl) rfl)) ?_
        refine WA_take 9 (by kernel_rfl) rfl (fun _ _ => rn_neq rfl rfl) ?_
        refine WA_take 10 (by kernel_rfl) rfl (fun _ _ => rn_pick_f rfl) ?_
        refine WA_take 11 (by kernel_rfl) rfl (fun _ _ => rn_move) ?_
        refine WA_part 57 rfl (fun hnn => ?_) (fun hnn => ?_)
        ·
          refine WA_skip 12 (by kernel_rfl) rfl ?_
          refine WA_skip 13 (by kernel_rfl) rfl ?_
          refine WA_skip 14 (by kernel_rfl) rfl ?_
          refine WA_skip 15 (by kernel_rfl) rfl ?_
          refine WA_skip 16 (by kernel_rfl) rfl ?_
          refine WA_skip 17 (by kernel_rfl) rfl ?_
          refine WA_skip 18 (by kernel_rfl) rfl ?_
          refine WA_skip 19 (by kernel_rfl) rfl ?_
          refine WA_take 20 (by kernel_rfl) rfl (fun _ _ => rn_pick_t rfl) ?_
          refine WA_take 21 (by kernel_rfl) rfl (fun _ _ => rn_move) ?_
          refine WA_skip 22 (by kernel_rfl) rfl ?_
          refine WA_skip 23 (by kernel_rfl) rfl ?_
          refine WA_skip 24 (by kernel_rfl) rfl ?_
          refine WA_skip 25 (by kernel_rfl) rfl ?_
          refine WA_skip 26 (by kernel_rfl) rfl ?_
          refine WA_skip 27 (by kernel_rfl) rfl ?_
          refine WA_skip 28 (by kernel_rfl) rfl ?_
          refine WA_skip 29 (by kernel_rfl) rfl ?_
          refine WA_take 30 (by kernel_rfl) rfl (fun _ _ => rn_pick_t rfl) ?_
          refine WA_done (by kernel_rfl) ?_
          refine thenN ?_
          refine W_t rfl ?_
          refine W_exit ?_
          refine thenX ?_
          refine blockO rfl ?_
          have hS2 : S = T := by rw [hST, recsL_none (by rw [okRow, if_neg (by omega)]), List.append_nil]
          exact ⟨keepsFrom_of_kp (M := []) (Kp.of_below hBi) (by simp), rfl, hS2 ▸ ⟨hx, hr1, ⟨_, vs, hr2.new hBi, hu.new hBi, hrl.new hBi⟩, hkb.trans (Kp.of_below' hBi)⟩⟩
        ·
          refine WA_take 12 (by kernel_rfl) rfl (fun _ _ => rn_fieldAddr (off := 0) (by kernel_rfl) rfl) ?_
          refine WA_take 13 (by kernel_rfl) rfl (fun w' hS' => rn_load rfl (Ld.row1 (hr8_d904.kpd hS' (by first | (simp; done) | (simp; omega) | (simp [*]; done) | exact notLL (Or.inl (by omega)) | exact notLL (Or.inr (by simp)) | exact fun g hm => Nat.le_trans (by omega) (inLL hm).1 | (intro b o e; cases e; exact notLL (Or.inl (by omega))) | (intro b hm; have := (hu.lt b (Option.mem_toList.1 hm)).1; omega) | (intro b o e; cases e; intro hm; have := (hu.lt _ (Option.mem_toList.1 hm)).1; omega))) (by kernel_rfl) rfl)) ?_
          refine WA_take 14 (by kernel_rfl) rfl (fun w' hS' => rn_load rfl (Ld.row1 (hr1_d904.kpd hS' (by first | (simp; done) | (simp; omega) | (simp [*]; done) | exact notLL (Or.inl (by omega)) | exact notLL (Or.inr (by simp)) | exact fun g hm => Nat.le_trans (by omega) (inLL hm).1 | (intro b o e; cases e; exact notLL (Or.inl (by omega))) | (intro b hm; have := (hu.lt b (Option.mem_toList.1 hm)).1; omega) | (intro b o e; cases e; intro hm; have := (hu.lt _ (Option.mem_toList.1 hm)).1; omega))) (by kernel_rfl) rfl)) ?_
          refine WA_take 15 (by kernel_rfl) rfl (fun _ _ => rn_nilCheckP rfl) ?_
          refine WA_take 16 (by kernel_rfl) rfl (fun _ _ => rn_fieldAddr (off := 0) (by kernel_rfl) rfl) ?_
          refine WA_take 17 (by kernel_rfl) rfl (fun _ _ => rn_fieldAddr (off := 1) (by kernel_rfl) rfl) ?_
          refine WA_take 18 (by kernel_rfl) rfl (fun w' hS' => rn_load rfl (Ld.row1 (hx_d904.kpd hS' (by first | (simp; done) | (simp; omega) | (simp [*]; done) | exact notLL (Or.inl (by omega)) | exact notLL (Or.inr (by simp)) | exact fun g hm => Nat.le_trans (by omega) (inLL hm).1 | (intro b o e; cases e; exact notLL (Or.inl (by omega))) | (intro b hm; have := (hu.lt b (Option.mem_toList.1 hm)).1; omega) | (intro b o e; cases e; intro hm; have := (hu.lt _ (Option.mem_toList.1 hm)).1; omega))) (by kernel_rfl) rfl)) ?_
          refine WA_take 19 (by kernel_rfl) rfl (fun _ _ => rn_lss rfl rfl) ?_
          refine WA_take 20 (by kernel_rfl) rfl (fun _ _ => rn_pick_f rfl) ?_
          refine WA_take 21 (by kernel_rfl) rfl (fun _ _ => rn_move) ?_
          refine WA_part 67 rfl (fun hsi => ?_) (fun hsi => ?_)
          ·
            refine WA_skip 22 (by kernel_rfl) rfl ?_
            refine WA_skip 23 (by kernel_rfl) rfl ?_
            refine WA_skip 24 (by kernel_rfl) rfl ?_
            refine WA_skip 25 (by kernel_rfl) rfl ?_
            refine WA_skip 26 (by kernel_rfl) rfl ?_
            refine WA_skip 27 (by kernel_rfl) rfl ?_
            refine WA_skip 28 (by kernel_rfl) rfl ?_
            refine WA_skip 29 (by kernel_rfl) rfl ?_
            refine WA_take 30 (by kernel_rfl) rfl (fun _ _ => rn_pick_t rfl) ?_
            refine WA_done (by kernel_rfl) ?_
            refine thenN ?_
            refine W_t rfl ?_
            refine W_exit ?_
            refine thenX ?_
            refine blockO rfl ?_
            have hS2 : S = T := by rw [hST, recsL_none (by rw [okRow, if_neg (by omega)]), List.append_nil]
            exact ⟨keepsFrom_of_kp (M := []) (Kp.of_below hBi) (by simp), rfl, hS2 ▸ ⟨hx, hr1, ⟨_, vs, hr2.new hBi, hu.new hBi, hrl.new hBi⟩, hkb.trans (Kp.of_below' hBi)⟩⟩
          ·
            refine WA_take 22 (by kernel_rfl) rfl (fun _ _ => rn_fieldAddr (off := 0) (by kernel_rfl) rfl) ?_
            refine WA_take 23 (by kernel_rfl) rfl (fun w' hS' => rn_load rfl (Ld.row1 (hr8_d904.kpd hS' (by first | (simp; done) | (simp; omega) | (simp [*]; done) | exact notLL (Or.inl (by omega)) | exact notLL (Or.inr (by simp)) | exact fun g hm => Nat.le_trans (by omega) (inLL hm).1 | (intro b o e; cases e; exact notLL (Or.inl (by omega))) | (intro b hm; have := (hu.lt b (Option.mem_toList.1 hm)).1; omega) | (intro b o e; cases e; intro hm; have := (hu.lt _ (Option.mem_toList.1 hm)).1; omega))) (by kernel_rfl) rfl)) ?_
            refine WA_take 24 (by kernel_rfl) rfl (fun w' hS' => rn_load rfl (Ld.row1 (hr1_d904.kpd hS' (by first | (simp; done) | (simp; omega) | (simp [*]; done) | exact notLL (Or.inl (by omega)) | exact notLL (Or.inr (by simp)) | exact fun g hm => Nat.le_trans (by omega) (inLL hm).1 | (intro b o e; cases e; exact notLL (Or.inl (by omega))) | (intro b hm; have := (hu.lt b (Option.mem_toList.1 hm)).1; omega) | (intro b o e; cases e; intro hm; have := (hu.lt _ (Option.mem_toList.1 hm)).1; omega))) (by kernel_rfl) rfl)) ?_
            refine WA_take 25 (by kernel_rfl) rfl (fun _ _ => rn_nilCheckP rfl) ?_
            refine WA_take 26 (by kernel_rfl) rfl (fun _ _ => rn_fieldAddr (off := 0) (by kernel_rfl) rfl) ?_
            refine WA_take 27 (by kernel_rfl) rfl (fun _ _ => rn_fieldAddr (off := 0) (by kernel_rfl) rfl) ?_
            refine WA_take 28 (by kernel_rfl) rfl (fun w' hS' => rn_load rfl (Ld.row1 (hx_d904.kpd hS' (by first | (simp; done) | (simp; omega) | (simp [*]; done) | exact notLL (Or.inl (by omega)) | exact notLL (Or.inr (by simp)) | exact fun g hm => Nat.le_trans (by omega) (inLL hm).1 | (intro b o e; cases e; exact notLL (Or.inl (by omega))) | (intro b hm; have := (hu.lt b (Option.mem_toList.1 hm)).1; omega) | (intro b o e; cases e; intro hm; have := (hu.lt _ (Option.mem_toList.1 hm)).1; omega))) (by kernel_rfl) rfl)) ?_
            refine WA_take 29 (by kernel_rfl) rfl (fun _ _ => rn_gtr rfl rfl) ?_
            refine WA_take 30 (by kernel_rfl) rfl (fun _ _ => rn_pick_f rfl) ?_
            refine WA_done (by kernel_rfl) ?_
            refine thenN ?_
            refine W_ifp rfl (fun hcc => ?_) (fun hcc => ?_)
            ·
              refine W_exit ?_
              refine thenX ?_
              refine blockO rfl ?_
              have hS2 : S = T := by rw [hST, recsL_none (by rw [okRow, if_neg (by omega)]), List.append_nil]
              exact ⟨keepsFrom_of_kp (M := []) (Kp.of_below hBi) (by simp), rfl, hS2 ▸ ⟨hx, hr1, ⟨_, vs, hr2.new hBi, hu.new hBi, hrl.new hBi⟩, hkb.trans (Kp.of_below' hBi)⟩⟩
            ·
              have hok2 : okRow si cc k r = some rr := by rw [okRow, if_pos (by omega), hrb]
              rw [recsL_some hok2] at hST
              have hu2 := hu
              have hsi2 := hsi
              refine W_skip ?_
              refine thenN ?_
              refine W_seq ?_
              refine W_region ?_
              replace hr2 := hr2.new hBi
              replace hu := hu.new hBi
              replace hrl := hrl.new hBi
              have hBe := hBi
              have hKx : KpB (x :: g2 :: (Value.slice pu T.length cu).ownBlock.toList) W2 w904 := ⟨Kp.of_below' hBi⟩
              have hwz := hBi.size
              refine WR_val rfl (rn_load rfl (Ld.row1 hr2 (by kernel_rfl) rfl)) ?_
              refine WR_val rfl (rn_move) ?_
              refine WR_mk rfl (mk_one (e := 60) (.slice (some ⟨gq, oq, none⟩) rr.length cq) ([.slice (some ⟨gq, oq, none⟩) rr.length cq]) ([Value.slice none 0 0]) 1 (by kernel_rfl) (by kernel_rfl) rfl rfl rfl ⟨by decide, by decide⟩ (fun g79 w79 hg79 hr79 hb79 => ?_))
              have lt_x_g79 : x < g79 := Nat.lt_of_lt_of_le hx.lt hg79
              have lt_g1_g79 : g1 < g79 := Nat.lt_of_lt_of_le hr1.lt hg79
              have lt_g2_g79 : g2 < g79 := Nat.lt_of_lt_of_le hr2.lt hg79
              replace hx := hx.new hb79
              replace hr1 := hr1.new hb79
              replace hsq := hsq.new hb79
              replace hr2 := hr2.new hb79
              replace hu := hu.new hb79
              replace hrl := hrl.new hb79
              replace hKx := hKx.new hb79
              have hs79 := hr79.slA (m := 1) (sz := 1) rfl (by omega)
              have hgq2 := (hsq.some (by omega))
              obtain ⟨_, _, hqe, hgq3⟩ := hgq2
              cases hqe
              have hwz2 := hb79.size
              refine WR_mk rfl (mk_append (e := 60) (sz := 1) (bytes := 24) (z := Value.slice none 0 0) (by kernel_rfl) rfl (by kernel_rfl) rfl (by decide) rfl hu rfl hs79 (by simp [Value.oneCell']) (by unfold maxLen; omega) (by omega) (fun hm0 => by omega) (fun v80 w80 hv80 hgr80 hfr80 => ?_))
              replace hx := hx.own hu hgr80 (by omega)
              replace hr1 := hr1.own hu hgr80 (by omega)
              replace hr2 := hr2.own hu hgr80 (by omega)
              obtain ⟨p80, c80, rfl⟩ := hv80.form
              have hne : ∀ b, (Value.slice pu T.length cu).ownBlock = some b → BB ≤ b ∧ b < W2.heap.size := hu2.lt
              have hsq2 := hsq.kpd (Kp.of_grown hgr80) (fun b o e hm => by cases e; have := (hne _ (Option.mem_toList.1 hm)).2; omega)
              have hrl2 := (hrl.grow hgr80 hfr80).snoc hsq2 (Nat.lt_of_lt_of_le hgq3 hgr80.size) (fun e => (hfr80 gq e.symm).elim (fun e' => by have := (hne _ e').2; omega) (fun e' => by omega)) hcq (by omega)
              replace hKx := hKx.kpd (Kp.of_grown hgr80) (fun b hb => .inl (List.mem_cons_of_mem _ (List.mem_cons_of_mem _ hb)))
              refine WR_sk rfl (sk_store1 rfl rfl rfl rfl hr2 (by kernel_rfl) (by first | (simp only [List.length_replicate]; omega) | (simp only [iv_length]; omega) | (simp only [bv_length, List.length_set]; omega) | simp) (fun w905 hr2 ho905 => ?_))
              replace hx := hx.only ho905 (Nat.ne_of_lt lt_x_g2)
              replace hr1 := hr1.only ho905 (Nat.ne_of_lt lt_g1_g2)
              replace hv80 := hv80.only ho905 (by omega)
              replace hKx := hKx.only ho905 (by simp)
              replace hrl2 := hrl2.only ho905 (by omega)
              refine WR_nil ?_
              refine thenN ?_
              refine W_seq ?_
              refine W_region ?_
              refine WR_val rfl (rn_load rfl (Ld.row1 hr1 (by kernel_rfl) rfl)) ?_
              refine WR_val rfl (rn_nilCheckP rfl) ?_
              refine WR_val rfl (rn_fieldAddr (off := 4) (by kernel_rfl) rfl) ?_
              refine WR_val rfl (rn_load rfl (Ld.row1 hx (by kernel_rfl) rfl)) ?_
              refine WR_val rfl (rn_add rfl rfl (Coup.w64 (by omega))) ?_
              refine WR_val rfl (rn_nilCheckP rfl) ?_
              refine WR_val rfl (rn_fieldAddr (off := 4) (by kernel_rfl) rfl) ?_
              refine WR_sk rfl (sk_store1 rfl rfl rfl rfl hx (by kernel_rfl) (by first | (simp only [List.length_replicate]; omega) | (simp only [iv_length]; omega) | (simp only [bv_length, List.length_set]; omega) | simp) (fun w906 hx ho906 => ?_))
              replace hr1 := hr1.only ho906 (Nat.ne_of_gt lt_x_g1)
              replace hr2 := hr2.only ho906 (Nat.ne_of_gt lt_x_g2)
              replace hv80 := hv80.only ho906 (by omega)
              replace hKx := hKx.only ho906 (by simp)
              replace hrl2 := hrl2.only ho906 (by omega)
              refine WR_nil ?_
              refine thenN ?_
              have hx2 : row w906 x [.int .u64 (cc : Int), .int .u64 (si : Int), .pointer (some ⟨g, 0, none⟩), .int .i64 (i : Int), .int .i64 (((T.length : Nat) : Int) + 1), .int .i64 ((atS T : Nat) : Int), .bool de] 81 := hx
              replace hx := hx2
              clear hx2
              refine W_draw' [x] (by kernel_rfl) ?_
              intro w907 hb907 hS907
              replace hx := hx.new hb907
              replace hr1 := hr1.new hb907
              replace hr2 := hr2.new hb907
              replace hv80 := hv80.new hb907
              replace hKx := hKx.new hb907
              replace hrl2 := hrl2.new hb907
              have hx_d907 := hx
              have hr1_d907 := hr1
              have hr2_d907 := hr2
              have hv80_d907 := hv80
              have hKx_d907 := hKx
              have hrl2_d907 := hrl2
              refine WA_take 0 (by kernel_rfl) rfl (fun w' hS' => rn_load rfl (Ld.row1 (hr1_d907.kpd hS' (by first | (simp; done) | (simp; omega) | (simp [*]; done) | exact notLL (Or.inl (by omega)) | exact notLL (Or.inr (by simp)) | exact fun g hm => Nat.le_trans (by omega) (inLL hm).1 | (intro b o e; cases e; exact notLL (Or.inl (by omega))) | (intro b hm; have := (hu.lt b (Option.mem_toList.1 hm)).1; omega) | (intro b o e; cases e; intro hm; have := (hu.lt _ (Option.mem_toList.1 hm)).1; omega))) (by kernel_rfl) rfl)) ?_
              refine WA_take 1 (by kernel_rfl) rfl (fun _ _ => rn_nilCheckP rfl) ?_
              refine WA_take 2 (by kernel_rfl) rfl (fun _ _ => rn_fieldAddr (off := 5) (by kernel_rfl) rfl) ?_
              refine WA_take 4 (by kernel_rfl) rfl (fun _ _ => rn_move) ?_
              refine WA_take 5 (by kernel_rfl) rfl (fun _ _ => rn_lenSl (e := 112) (sz := 513) (by kernel_rfl) rfl rfl) ?_
              refine WA_call 6 (by kernel_rfl) rfl (fun _ => rn_call (by kernel_rfl) rfl) (fun w' hS' => need10 rr.length w') ?_
              refine WA_one 3 (by kernel_rfl) ?_
              refine WO_val rfl rfl (rn_load rfl (Ld.row1 hx (by kernel_rfl) rfl)) hS907 ?_
              refine WA_take 7 (by kernel_rfl) rfl (fun _ _ => rn_add rfl rfl (Coup.w64 (by rw [hnw.1]; omega))) ?_
              refine WA_take 8 (by kernel_rfl) rfl (fun _ _ => rn_nilCheckP rfl) ?_
              refine WA_take 9 (by kernel_rfl) rfl (fun _ _ => rn_fieldAddr (off := 5) (by kernel_rfl) rfl) ?_
              refine WA_one 10 (by kernel_rfl) ?_
              refine WO_sk rfl rfl (sk_store1 rfl rfl rfl rfl hx (by kernel_rfl) (by first | (simp only [List.length_replicate]; omega) | (simp only [iv_length]; omega) | (simp only [bv_length, List.length_set]; omega) | simp) (fun w910 hx ho910 => ?_))
              have hS909 := hS907.add1 ho910 (by first | (left; omega) | (right; simp; done) | (right; simp; omega))
              refine ⟨hS909, ?_⟩
              replace hr1 := hr1.only ho910 (Nat.ne_of_gt lt_x_g1)
              replace hr2 := hr2.only ho910 (Nat.ne_of_gt lt_x_g2)
              replace hv80 := hv80.only ho910 (by omega)
              replace hKx := hKx.only ho910 (by simp)
              replace hrl2 := hrl2.only ho910 (by omega)
              refine WA_done (by kernel_rfl) ?_
              refine blockN ?_
              have e1 : (((T ++ [rr]).length : Nat) : Int) = ((T.length : Nat) : Int) + 1 := by rw [List.length_append]; rfl
              have e2 : ((atS (T ++ [rr]) : Nat) : Int) = ((atS T : Nat) : Int) + needW rr.length := by rw [atS_snoc, hnw.1]; rfl
              refine ⟨keepsFrom_of_kp hKx.k fun b hb => ?_, fun b hb => ?_, by omega, T ++ [rr], by rw [List.length_append, List.length_singleton]; omega, by rw [atS_snoc]; omega, by rw [List.append_assoc]; exact hST, by rw [e1, e2]; exact hx, hr1, ⟨_, _, hr2, by rw [List.length_append]; exact hv80, hrl2⟩, ?_⟩
              · rcases List.mem_cons.1 hb with rfl | hb
                · left; omega
                · rcases List.mem_cons.1 hb with rfl | hb
                  · left; omega
                  · right; exact own_cells hu2 (Option.mem_toList.1 hb)
              · have hbl : b < BB ∧ b ≠ x ∧ b ≠ g2 := by
                  simp only [List.mem_cons, List.not_mem_nil, or_false] at hb
                  rcases hb with rfl | rfl <;> omega
                refine hKx.k.block b (by omega) fun hm => ?_
                rcases List.mem_cons.1 hm with e | hm
                · exact hbl.2.1 e
                · rcases List.mem_cons.1 hm with e | hm
                  · exact hbl.2.2 e
                  · have := (hne _ (Option.mem_toList.1 hm)).1; omega
              · refine ((⟨hkb⟩ : KpB [x] w W2).kpd hKx.k fun b hm => ?_).k
                rcases List.mem_cons.1 hm with e | hm
                · left; simp [e]
                · rcases List.mem_cons.1 hm with e | hm
                  · right; omega
                  · have := (hne _ (Option.mem_toList.1 hm)).1; right; omega
    · intro Dd W hD hI hdef
      obtain ⟨hk, T, hTk, hat, hST, hT⟩ := hI
      rw [List.drop_length, recsL, List.append_nil] at hST
      subst hST
      obtain ⟨hx, hr1, ⟨v, vs, hr2, hu, hrl⟩, hkb⟩ := hT
      obtain ⟨pu, cu, rfl⟩ := hu.form
      refine blockN ?_
      refine thenN ?_
      refine W_seq ?_
      refine W_region ?_
      refine WR_val rfl (rn_load rfl (Ld.row1 hr2 (by kernel_rfl) rfl)) ?_
      refine WR_sk rfl (sk_store1 rfl rfl rfl rfl hr2 (by kernel_rfl) (by first | (simp only [List.length_replicate]; omega) | (simp only [iv_length]; omega) | (simp only [bv_length, List.length_set]; omega) | simp) (fun w911 hr2 ho911 => ?_))
      have hdef2 : (w911).heap[Dd]? = some (.deferred (some [])) := ((Kp.of_only ho911).block Dd (Array.getElem?_eq_some_iff.1 hdef).1 (by simp; omega)).trans hdef
      replace hdef := hdef2
      clear hdef2
      have hput := Soft.put (B := w.heap.size) (.deferred none) hdef (by omega) rfl
      have hr2n : row w911 g2 [.slice pu S.length cu] 29 := hr2
      have hr2p := hr2n.soft hput
      have hx2 := (hx.only ho911 (by omega)).soft hput
      have hu2 := (hu.only ho911 (by omega)).soft hput
      have hrl2 := (hrl.only ho911 (by omega)).soft hput
      have hk2 := ((⟨hkb⟩ : KpB [x] w W).only ho911 (by right; omega)).k.soft hput (Nat.le_refl _)
      refine WR_val rfl (rn_assign) ?_
      refine WR_nil ?_
      refine thenN ?_
      refine W_ret ?_
      refine ret_mark [_, _] Dd hdef ⟨⟨_, rfl, Ld.row1 hr2p (by kernel_rfl) rfl⟩, rfl, trivial⟩ ?_
      exact ⟨pu, cu, rfl, own_cap hu2, ⟨two_add h.two hk2 (fun b hb => .inr (by simp at hb; simp [hb])) (all_of hu2 hrl2 (by omega)) (fun b hb => (List.mem_range'_1.1 hb).1), hx2, hge, hni⟩, LoL.of_kp hk2 (fun b hb => .inl (by simp at hb; subst hb; exact ⟨hge, hni⟩))⟩
    · intro Dd c W' hD hI hdef
      obtain ⟨rfl, hT⟩ := hI
      obtain ⟨hx, hr1, ⟨v, vs, hr2, hu, hrl⟩, hkb⟩ := hT
      obtain ⟨pu, cu, rfl⟩ := hu.form
      refine ⟨by kernel_rfl, W_exit ?_⟩
      refine blockX ?_
      refine thenN ?_
      refine W_seq ?_
      refine W_region ?_
      refine WR_val rfl (rn_load rfl (Ld.row1 hr2 (by kernel_rfl) rfl)) ?_
      refine WR_sk rfl (sk_store1 rfl rfl rfl rfl hr2 (by kernel_rfl) (by first | (simp only [List.length_replicate]; omega) | (simp only [iv_length]; omega) | (simp only [bv_length, List.length_set]; omega) | simp) (fun w912 hr2 ho912 => ?_))
      have hdef2 : (w912).heap[Dd]? = some (.deferred (some [])) := ((Kp.of_only ho912).block Dd (Array.getElem?_eq_some_iff.1 hdef).1 (by simp; omega)).trans hdef
      replace hdef := hdef2
      clear hdef2
      have hput := Soft.put (B := w.heap.size) (.deferred none) hdef (by omega) rfl
      have hr2n : row w912 g2 [.slice pu S.length cu] 29 := hr2
      have hr2p := hr2n.soft hput
      have hx2 := (hx.only ho912 (by omega)).soft hput
      have hu2 := (hu.only ho912 (by omega)).soft hput
      have hrl2 := (hrl.only ho912 (by omega)).soft hput
      have hk2 := ((⟨hkb⟩ : KpB [x] w W').only ho912 (by right; omega)).k.soft hput (Nat.le_refl _)
      refine WR_val rfl (rn_assign) ?_
      refine WR_nil ?_
      refine thenN ?_
      refine W_ret ?_
      refine ret_mark [_, _] Dd hdef ⟨⟨_, rfl, Ld.row1 hr2p (by kernel_rfl) rfl⟩, rfl, trivial⟩ ?_
      exact ⟨pu, cu, rfl, own_cap hu2, ⟨two_add h.two hk2 (fun b hb => .inr (by simp at hb; simp [hb])) (all_of hu2 hrl2 (by omega)) (fun b hb => (List.mem_range'_1.1 hb).1), hx2, hge, hni⟩, LoL.of_kp hk2 (fun b hb => .inl (by simp at hb; subst hb; exact ⟨hge, hni⟩))⟩
end
end Go.Proofs.YtkkgahgpemepeaaGreat
namespace Go.Proofs.YtkkgahgpemepeaaGreat
open Go Go.RowKit Coup
theorem rn_built3 {P : Program} {ρ : Env} {w : World} {d : Option Nat} {ty : TypeId} {pos : String} {af : Array Edge} {gd : Option (Nat × Bool)} {t i j k : Nat} {x y z : Operand} (v u s : Value) (cs : List Value) (hx : ev ρ x = v) (hy : ev ρ y = u) (hz : ev ρ z = s) (hb : P.built t [(i, v), (j, u), (k, s)] = some cs.toArray) :
    (execOp (ev ρ) ⟨d, .build t #[(i, x), (j, y), (k, z)], ty, pos, af, gd⟩).run P w = .ok (.value (.agg cs.toArray)) w := by
  have := run_build (P := P) w t #[(i, v), (j, u), (k, s)] cs.toArray (by simpa using hb)
  simp only [execOp, List.map_toArray, List.map_cons, List.map_nil, hx, hy, hz, Sem.run_bind, this, Result.andThen_ok]
  rfl
theorem two_left {X Y Z : World → List Nat → Prop} {lo : Nat} {L : List Nat} {w : World} (h : Two X (AndZ Y Z) lo L w) : Two X Y lo L w := by
  obtain ⟨⟨B, _, h1, ⟨C1, C2, rfl, h2, _⟩, h3, h4⟩, h5, h6⟩ := h
  exact ⟨⟨B, C1, h1, h2, fun b hb => ⟨(h3 b hb).1, fun hm => (h3 b hb).2.1 (List.mem_append_left _ hm), (h3 b hb).2.2⟩, fun b hb => h4 b (List.mem_append_left _ hb)⟩, h5, h6⟩
def openE (D : Dk) (n : Int) : Int := if fitsN D.V.length n then (if hdIs (readD D 0) then (if hdC (readD D 0) = 4611686018427387904 then 8 else 0) else 6) else 2
def headG (D : Dk) (n : Int) : Lg := ⟨hdC (readD D 0), hdS (readD D 0), n.toNat, 0, 0, false⟩
section
variable {Y : World → List Nat → Prop} [Thing Y] {g lo : Nat} {L : List Nat} {D : Dk} {w : World}
def noLog (e : Int) : Value := .tuple #[.pointer none, .slice none 0 0, .int .i64 e]
set_option maxRecDepth 20000 in
set_option maxHeartbeats 1000000 in
theorem openYes (h : Two (DZ g D) Y lo L w) (n : Nat) (he : openE D n = 0) (hsh : shortD D 90000) :
    Calls Tryz.prog 7 [.pointer (some ⟨g, 0, none⟩), .int .i64 (n : Int)].toArray w (Ret fun v w' => ∃ ok D2 C s S, saveE D (C + 1) s = ok ∧ saveD D (C + 1) s = D2 ∧ hdC (readD D 0) = C ∧ hdS (readD D 0) = s ∧ recsOf D (headG D n) = S ∧ LoL lo L w w' ∧
      ((ok = false ∧ v = noLog 10 ∧ Two (DZ g D2) Y lo L w') ∨ (ok = true ∧ ∃ x p c, v = .tuple #[.pointer (some ⟨x, 0, none⟩), .slice p S.length c, .int .i64 0] ∧ S.length ≤ c ∧
        LgAt g x (AndZ Y (AllZ p S)) lo L D2 ⟨C + 1, s, n, S.length, atS S, false⟩ w'))) := by
  have hfit : fitsN D.V.length n = true := Decidable.byContradiction fun hc => by
    unfold openE at he; rw [if_neg hc] at he; cases he
  have his : hdIs (readD D 0) = true := Decidable.byContradiction fun hc => by
    unfold openE at he; rw [if_pos hfit, if_neg hc] at he; cases he
  have hCn : hdC (readD D 0) ≠ 4611686018427387904 := fun hc => by
    unfold openE at he; rw [if_pos hfit, if_pos his] at he; rw [if_pos hc] at he; cases he
  have hft := of_decide_eq_true hfit
  have hi2 := his
  rw [hdIs, Bool.and_eq_true, Bool.and_eq_true, Bool.and_eq_true] at hi2
  have hs1 := of_decide_eq_true hi2.1.1.2
  have hsc := of_decide_eq_true hi2.1.2
  have hcm := of_decide_eq_true hi2.2
  have hB := Below.refl w.heap.size w
  have hM := may49 h n ⟨by omega, by omega⟩
  rw [hfit] at hM
  have hpos := (tOk h).2
  have hin : inD D 0 = true := decide_eq_true ⟨by omega, by omega⟩
  have hrd := fun w' (hb : Below w.heap.size w w') => tRead (h.new hb) 0
  rw [hin, if_pos rfl, if_pos rfl] at hrd
  have hsl := readD_len (tOk h).1 hpos
  have hz : (0 : Int).toNat = 0 := rfl
  rw [hz] at hrd
  have hhd := fun w' => headOf51 (readD D 0) w' hsl
  rw [his] at hhd
  have hHG : headG D n = ⟨hdC (readD D 0), hdS (readD D 0), n, 0, 0, false⟩ := by rw [headG, Int.toNat_natCast]
  obtain ⟨C, hC⟩ : ∃ C, hdC (readD D 0) = C := ⟨_, rfl⟩
  obtain ⟨s, hS⟩ : ∃ s, hdS (readD D 0) = s := ⟨_, rfl⟩
  rw [hC, hS] at hHG hhd
  rw [hC] at hCn hsc hcm
  rw [hS] at hsc hs1
  obtain ⟨S, hR⟩ : ∃ S, recsOf D (headG D n) = S := ⟨_, rfl⟩
  have hrec := fun (x : Nat) (w' : World) (h : LgAt g x Y lo L D ⟨C, s, n, 0, 0, false⟩ w') => read52 h ⟨hs1, hsc, hcm, by show 4 ≤ n; omega, by show n ≤ 4000; omega, Nat.zero_le _, Nat.le_refl _, by show 1 + n ≤ _; omega⟩ rfl rfl
  rw [← hHG, hR, hHG] at hrec
  dsimp only at hrec
  obtain ⟨ok, hok⟩ : ∃ ok, saveE D (C + 1) s = ok := ⟨_, rfl⟩
  obtain ⟨D2, hD2⟩ : ∃ D2, saveD D (C + 1) s = D2 := ⟨_, rfl⟩
  have hnx := fun (x : Nat) (p : Option Addr) (w' : World) (h : LgAt g x (AndZ Y (AllZ p S)) lo L D ⟨C, s, n, S.length, atS S, false⟩ w') => next48 h s (by show C + 1 < _; omega) (by omega) hsh
  dsimp only at hnx
  rw [hok, hD2] at hnx
  generalize readD D 0 = sc at *
  have hlo := h.lo
  have hlt := h.lt
  have hLL := LoL.refl lo L w
  have hD := h
  refine Calls.to (R := fun v w' => LoL lo L w w' ∧ ((ok = false ∧ v = noLog 10 ∧ Two (DZ g D2) Y lo L w') ∨ (ok = true ∧ ∃ x p c, v = .tuple #[.pointer (some ⟨x, 0, none⟩), .slice p S.length c, .int .i64 0] ∧ S.length ≤ c ∧
        LgAt g x (AndZ Y (AllZ p S)) lo L D2 ⟨C + 1, s, n, S.length, atS S, false⟩ w'))) ?_ (fun v w' hh => ⟨ok, D2, C, s, S, hok, hD2, hC, hS, hR, hh.1, hh.2⟩)
  clear he
  refine calls_W (fn := Tryz.f7) (rs := [.tmp 4, .tmp 5, .tmp 6]) (n := 64) Tryz.func7 rfl rfl Tryz.ntmps7 (by kernel_rfl) rfl ?_
  refine W_seq ?_
  refine W_region ?_
  refine WR_val rfl (rn_assign) ?_
  refine WR_val rfl (rn_assign) ?_
  refine WR_val rfl (rn_assign) ?_
  refine WR_nil ?_
  refine thenN ?_
  refine W_seq ?_
  refine W_seq ?_
  refine W_region ?_
  refine WR_val rfl (rn_move) ?_
  refine WR_val rfl (rn_move) ?_
  refine WR_ent rfl (rn_call (by kernel_rfl) rfl) (hM) ?_
  rintro _ _ ⟨rfl, rfl⟩
  refine WR_val rfl (rn_assign) ?_
  refine WR_nil ?_
  refine thenN ?_
  refine W_seq ?_
  refine W_region ?_
  refine WR_val rfl (rn_move) ?_
  refine WR_val rfl (rn_neq rfl rfl) ?_
  refine WR_nil ?_
  refine thenN ?_
  refine W_fp rfl ((by simp)) ?_
  refine W_skip ?_
  refine thenN ?_
  refine W_seq ?_
  refine W_region ?_
  refine WR_val rfl (rn_move) ?_
  refine WR_ent rfl (rn_call (by kernel_rfl) rfl) (hrd _ hB) ?_
  rintro _ w22 ⟨rfl, hb22⟩
  replace hLL := hLL.new hb22
  replace hB := hB.acc hb22
  refine WR_val rfl (rn_move) ?_
  refine WR_val rfl (rn_extract rfl rfl) ?_
  refine WR_val rfl (rn_extract rfl rfl) ?_
  refine WR_mk rfl (mk_alloc (List.replicate 128 (Value.int .u8 0)) (by kernel_rfl) (fun g8 w8 hg8 hr8 hb8 => ?_))
  have ge_hB_g8 := Nat.le_trans hB.size hg8
  replace hLL := hLL.new hb8
  replace hB := hB.acc hb8
  refine WR_sk rfl (sk_storeA 128 (bv sc) rfl rfl hr8 (by kernel_rfl) (by first | assumption | (simp; done) | (simp [bv_length, *]; done)) (by first | assumption | (simp; done) | (simp [bv_length, *]; done) | rfl) (by first | exact bv_one _ | assumption | (simp [Value.oneCell']; done)) (fun w901 hr8 ho901 => ?_))
  replace hLL := hLL.only ho901 (by first | omega | (right; exact ⟨by omega, by assumption⟩))
  replace hB := ho901.below hB ge_hB_g8
  refine WR_val rfl (rn_assign) ?_
  refine WR_nil ?_
  refine thenN ?_
  refine W_seq ?_
  refine W_seq ?_
  refine W_region ?_
  refine WR_val rfl (rn_move) ?_
  refine WR_val rfl (rn_neq rfl rfl) ?_
  refine WR_nil ?_
  refine thenN ?_
  refine W_fp rfl ((by simp)) ?_
  refine W_skip ?_
  refine thenN ?_
  refine W_seq ?_
  refine W_region ?_
  refine WR_val rfl (rn_load rfl (Ld.rowA (k := 128) hr8 (by kernel_rfl) (by kernel_rfl) (by rw [bv_length, hsl]))) ?_
  refine WR_ent rfl (rn_call (by kernel_rfl) rfl) (hhd w901) ?_
  rintro _ w30 ⟨rfl, hb30⟩
  replace hLL := hLL.new hb30
  replace hr8 := hr8.new hb30
  replace hB := hB.acc hb30
  refine WR_val rfl (rn_move) ?_
  refine WR_val rfl (rn_extract rfl rfl) ?_
  refine WR_val rfl (rn_extract rfl rfl) ?_
  refine WR_mk rfl (mk_alloc ([Value.int .u64 0, Value.int .u64 0]) (by kernel_rfl) (fun g10 w10 hg10 hr10 hb10 => ?_))
  have ge_hB_g10 := Nat.le_trans hB.size hg10
  have lt_g8_g10 : g8 < g10 := Nat.lt_of_lt_of_le hr8.lt hg10
  replace hLL := hLL.new hb10
  replace hr8 := hr8.new hb10
  replace hB := hB.acc hb10
  refine WR_sk rfl (sk_storeA 2 ([.int .u64 (C : Int), .int .u64 (s : Int)]) rfl rfl hr10 (by kernel_rfl) (by first | assumption | (simp; done) | (simp [bv_length, *]; done)) (by first | assumption | (simp; done) | (simp [bv_length, *]; done) | rfl) (by first | exact bv_one _ | assumption | (simp [Value.oneCell']; done)) (fun w902 hr10 ho902 => ?_))
  replace hLL := hLL.only ho902 (by first | omega | (right; exact ⟨by omega, by assumption⟩))
  replace hr8 := hr8.only ho902 (Nat.ne_of_lt lt_g8_g10)
  replace hB := ho902.below hB ge_hB_g10
  refine WR_val rfl (rn_assign) ?_
  refine WR_nil ?_
  refine thenN ?_
  refine W_seq ?_
  refine W_block ?_
  refine W_seq ?_
  refine W_region ?_
  refine WR_val rfl (rn_move) ?_
  refine WR_val rfl (rn_not rfl) ?_
  refine WR_val rfl (rn_assign) ?_
  refine WR_nil ?_
  refine thenN ?_
  refine W_fnb rfl (rfl) ?_
  refine W_seq ?_
  refine W_region ?_
  refine WR_val rfl (rn_fieldAddr (off := 0) (by kernel_rfl) rfl) ?_
  refine WR_val rfl (rn_load rfl (Ld.row1 hr10 (by kernel_rfl) rfl)) ?_
  refine WR_val rfl (rn_eql rfl rfl) ?_
  refine WR_val rfl (rn_assign) ?_
  refine WR_nil ?_
  refine thenN ?_
  refine W_fp rfl ((by omega)) ?_
  refine W_skip ?_
  refine blockN ?_
  refine thenN ?_
  refine W_seq ?_
  refine W_region ?_
  refine WR_val rfl (rn_load rfl (Ld.rowA (k := 2) hr10 (by kernel_rfl) (by kernel_rfl) (by first | (simp; done) | (simp [bv_length, *]; done) | assumption))) ?_
  refine WR_val rfl (rn_move) ?_
  refine WR_val rfl (rn_move) ?_
  refine WR_val rfl (rn_built3 (.agg #[.int .u64 (C : Int), .int .u64 (s : Int)]) (.pointer (some ⟨g, 0, none⟩)) (.int .i64 (n : Int)) [.int .u64 (C : Int), .int .u64 (s : Int), .pointer (some ⟨g, 0, none⟩), .int .i64 (n : Int), .int .i64 0, .int .i64 0, .bool false] rfl rfl rfl (by kernel_rfl)) ?_
  have hDw := h.new hB
  refine WR_mk rfl (mk_box ([.int .u64 (C : Int), .int .u64 (s : Int), .pointer (some ⟨g, 0, none⟩), .int .i64 (n : Int), .int .i64 0, .int .i64 0, .bool false]) rfl (fun g44 w44 hg44 hr44 hb44 => ?_))
  have ge_hB_g44 := Nat.le_trans hB.size hg44
  have lt_g8_g44 : g8 < g44 := Nat.lt_of_lt_of_le hr8.lt hg44
  have lt_g10_g44 : g10 < g44 := Nat.lt_of_lt_of_le hr10.lt hg44
  replace hLL := hLL.new hb44
  replace hr8 := hr8.new hb44
  replace hr10 := hr10.new hb44
  replace hB := hB.acc hb44
  have hbz := hB.size
  have hG : LgAt g g44 Y lo L D ⟨C, s, n, 0, 0, false⟩ w44 := ⟨hDw.newc hb44 hg44 hr44.lt, hr44, by omega, fun hm => by have := hDw.lt _ hm; omega⟩
  refine WR_val rfl (rn_assign) ?_
  refine WR_nil ?_
  refine thenN ?_
  refine W_seq ?_
  refine W_region ?_
  refine WR_val rfl (rn_move) ?_
  refine WR_ent rfl (rn_call (by kernel_rfl) rfl) (hrec _ w44 hG) ?_
  rintro _ w47 ⟨p, cp, rfl, hcp, hG, hb47⟩
  replace hLL := hLL.ll hb47 (by first | (intro b hb; exact hb) | (intro b hb; simp [hb]; done) | simp)
  refine WR_val rfl (rn_move) ?_
  refine WR_val rfl (rn_extract rfl rfl) ?_
  refine WR_val rfl (rn_extract rfl rfl) ?_
  refine WR_val rfl (rn_assign) ?_
  refine WR_val rfl (rn_assign) ?_
  refine WR_nil ?_
  refine thenN ?_
  refine W_seq ?_
  refine W_seq ?_
  refine W_region ?_
  refine WR_val rfl (rn_move) ?_
  refine WR_val rfl (rn_eql rfl rfl) ?_
  refine WR_nil ?_
  refine thenN ?_
  refine W_tp rfl (rfl) ?_
  refine W_region ?_
  refine WR_val rfl (rn_move) ?_
  refine WR_val rfl (rn_move) ?_
  refine WR_val rfl (rn_nilCheckP rfl) ?_
  refine WR_val rfl (rn_fieldAddr (off := 0) (by kernel_rfl) rfl) ?_
  refine WR_val rfl (rn_fieldAddr (off := 1) (by kernel_rfl) rfl) ?_
  refine WR_val rfl (rn_load rfl (Ld.row1 hG.rowx (by kernel_rfl) rfl)) ?_
  refine WR_ent rfl (rn_call (by kernel_rfl) rfl) (hnx _ _ w47 hG) ?_
  rintro _ w58 ⟨rfl, hG, hb58⟩
  replace hLL := hLL.ll hb58 (by first | (intro b hb; exact hb) | (intro b hb; simp [hb]; done) | simp)
  refine WR_val rfl (rn_assign) ?_
  refine WR_nil ?_
  refine thenN ?_
  refine W_seq ?_
  refine W_seq ?_
  refine W_region ?_
  refine WR_val rfl (rn_move) ?_
  refine WR_val rfl (rn_neq rfl rfl) ?_
  refine WR_nil ?_
  refine thenN ?_
  refine W_ifp rfl (fun hne => ?_) (fun hne => ?_)
  ·
    refine W_seq ?_
    refine W_region ?_
    refine WR_val rfl (rn_move) ?_
    refine WR_val rfl (rn_assign) ?_
    refine WR_val rfl (rn_assign) ?_
    refine WR_val rfl (rn_assign) ?_
    refine WR_nil ?_
    refine thenN ?_
    refine W_ret ?_
    refine thenR ?_
    refine ret_ret [_, _, _] ⟨rfl, rfl, rfl, trivial⟩ ?_
    have hf : ok = false := by cases ok with | false => rfl | true => simp at hne
    subst hf
    exact ⟨hLL, .inl ⟨rfl, rfl, two_left hG.fst⟩⟩
  ·
    have hf : ok = true := by cases ok with | true => rfl | false => simp at hne
    subst hf
    refine W_skip ?_
    refine thenN ?_
    refine W_seq ?_
    refine W_region ?_
    refine WR_val rfl (rn_move) ?_
    refine WR_val rfl (rn_move) ?_
    refine WR_val rfl (rn_assign) ?_
    refine WR_val rfl (rn_assign) ?_
    refine WR_val rfl (rn_assign) ?_
    refine WR_nil ?_
    refine thenN ?_
    refine W_ret ?_
    refine ret_ret [_, _, _] ⟨rfl, rfl, rfl, trivial⟩ ?_
    exact ⟨hLL, .inr ⟨rfl, _, p, cp, rfl, hcp, hG⟩⟩
end
end Go.Proofs.YtkkgahgpemepeaaGreat
namespace Go.Proofs.YtkkgahgpemepeaaGreat
open Go Go.RowKit Coup
theorem chsV_num {R : Rec} (h : chsOk R) {i : Nat} {c : Ch} (hc : R[i]? = some c) : (chsV R)[i * 513]? = some (.int .i64 c.num) := by
  have h1 := chsV_at h hc
  have h2 := congrArg (fun z => z[0]?) h1
  have hi := (List.getElem?_eq_some_iff.1 hc).1
  simpa [List.getElem?_take, List.getElem?_drop, chV] using h2
theorem ld_num {w : World} {g o n : Nat} {R : Rec} (h : SlAt w (some ⟨g, o, none⟩) n 513 (chsV R)) (hR : chsOk R) {i : Nat} {c : Ch} (hc : R[i]? = some c) : Ld Tryz.prog w 3 ⟨g, o + i * 513, none⟩ (.int .i64 c.num) :=
  Ld.one (by kernel_rfl) (h.cell (i * 513) (chsV_num hR hc))
set_option maxRecDepth 20000 in
set_option maxHeartbeats 1000000 in
theorem may12 (R : Rec) (hR : chsOk R) (p : Option Addr) (n cp : Nat) (w : World) (h : SlAt w p n 513 (chsV R)) (hn : R.length = n) (hn2 : n ≤ 1000000) :
    Calls Tryz.prog 53 [.slice p n cp].toArray w (Ret fun v w' => v = .bool (mayR R) ∧ w = w') := by
  refine calls_W (fn := Tryz.f53) (rs := [.tmp 2]) (n := 32) Tryz.func53 rfl rfl Tryz.ntmps53 (by kernel_rfl) rfl ?_
  refine W_seq ?_
  refine W_region ?_
  refine WR_val rfl (rn_assign) ?_
  refine WR_nil ?_
  refine thenN ?_
  refine W_seq ?_
  refine W_seq ?_
  refine W_region ?_
  refine WR_val rfl (rn_assign) ?_
  refine WR_nil ?_
  refine thenN ?_
  refine W_block ?_
  refine W_loop (α := Nat) 0 (fun k => [(3, .int .i64 (k : Nat)), (0, .slice p n cp)])
    (fun k w' => k ≤ n ∧ (∀ j c, j < k → R[j]? = some c → numOk c.num = true) ∧ w' = w) (fun k => n - k) ⟨rfl, rfl, rfl⟩ ⟨Nat.zero_le _, fun j c hj => by omega, rfl⟩ ?_
  rintro k f wr ⟨hk, hall, rfl⟩
  refine W_seq ?_
  refine W_seq ?_
  refine W_region ?_
  refine WR_val rfl (rn_move) ?_
  refine WR_val rfl (rn_move) ?_
  refine WR_val rfl (rn_lenSl (e := 112) (sz := 513) (by kernel_rfl) rfl rfl) ?_
  refine WR_val rfl (rn_lss rfl rfl) ?_
  refine WR_nil ?_
  refine thenN ?_
  refine W_ifp rfl (fun hlt => ?_) (fun hlt => ?_)
  ·
    refine W_skip ?_
    refine thenN ?_
    refine W_seq ?_
    refine W_block ?_
    refine W_seq ?_
    refine W_region ?_
    have hex : ∃ c, R[k]? = some c := ⟨_, List.getElem?_eq_getElem (by omega)⟩
    obtain ⟨c, hc⟩ := hex
    have hobt := h.some (by omega)
    obtain ⟨g, o, rfl, _⟩ := hobt
    refine WR_val rfl (rn_move) ?_
    refine WR_val rfl (rn_move) ?_
    refine WR_val rfl (rn_indexSl (e := 112) (sz := 513) (by kernel_rfl) rfl rfl (k) (by omega) (by omega)) ?_
    refine WR_val rfl (rn_fieldAddr (off := 0) (by kernel_rfl) rfl) ?_
    refine WR_val rfl (rn_load rfl (ld_num h hR hc)) ?_
    refine WR_val rfl (rn_lss rfl rfl) ?_
    refine WR_val rfl (rn_move) ?_
    refine WR_part 16 rfl (fun hneg => ?_) (fun hneg => ?_)
    ·
      refine WR_no rfl rfl ?_
      refine WR_no rfl rfl ?_
      refine WR_no rfl rfl ?_
      refine WR_no rfl rfl ?_
      refine WR_no rfl rfl ?_
      refine WR_no rfl rfl ?_
      refine WR_val rfl (rn_pick_t rfl) ?_
      refine WR_nil ?_
      refine thenN ?_
      refine W_t rfl ?_
      refine W_seq ?_
      refine W_region ?_
      refine WR_val rfl (rn_assign) ?_
      refine WR_nil ?_
      refine thenN ?_
      refine W_ret ?_
      refine blockR ?_
      refine thenR ?_
      refine loopR ?_
      refine blockR ?_
      refine thenR ?_
      refine ret_ret [_] ⟨rfl, trivial⟩ ?_
      have hm : mayR R = false := by
        rw [mayR, Bool.and_eq_false_iff]; right
        exact List.all_eq_false.2 ⟨c, List.mem_of_getElem? hc, by rw [numOk, decide_eq_false (by omega)]; simp⟩
      exact ⟨by rw [hm]; rfl, rfl⟩
    ·
      refine WR_yes rfl ?_
      refine WR_val rfl (rn_move) ?_
      refine WR_yes rfl ?_
      refine WR_val rfl (rn_move) ?_
      refine WR_yes rfl ?_
      refine WR_val rfl (rn_indexSl (e := 112) (sz := 513) (by kernel_rfl) rfl rfl (k) (by omega) (by omega)) ?_
      refine WR_yes rfl ?_
      refine WR_val rfl (rn_fieldAddr (off := 0) (by kernel_rfl) rfl) ?_
      refine WR_yes rfl ?_
      refine WR_val rfl (rn_load rfl (ld_num h hR hc)) ?_
      refine WR_yes rfl ?_
      refine WR_val rfl (rn_gtr rfl rfl) ?_
      refine WR_val rfl (rn_pick_f rfl) ?_
      refine WR_nil ?_
      refine thenN ?_
      refine W_ifp rfl (fun hbig => ?_) (fun hbig => ?_)
      ·
        refine W_seq ?_
        refine W_region ?_
        refine WR_val rfl (rn_assign) ?_
        refine WR_nil ?_
        refine thenN ?_
        refine W_ret ?_
        refine blockR ?_
        refine thenR ?_
        refine loopR ?_
        refine blockR ?_
        refine thenR ?_
        refine ret_ret [_] ⟨rfl, trivial⟩ ?_
        have hm : mayR R = false := by
          rw [mayR, Bool.and_eq_false_iff]; right
          exact List.all_eq_false.2 ⟨c, List.mem_of_getElem? hc, by rw [numOk, decide_eq_false (by omega)]; simp⟩
        exact ⟨by rw [hm]; rfl, rfl⟩
      ·
        refine W_skip ?_
        refine blockN ?_
        refine thenN ?_
        refine W_region ?_
        refine WR_val rfl (rn_move) ?_
        refine WR_val rfl (rn_add rfl rfl (Coup.w64 (by omega))) ?_
        refine WR_val rfl (rn_assign) ?_
        refine WR_nil ?_
        refine loopN ⟨k + 1, by omega, ⟨by go_num, rfl, rfl⟩, by omega, fun j d hj hd => ?_, rfl⟩
        by_cases hjk : j < k
        · exact hall j d hjk hd
        · obtain rfl : j = k := by omega
          rw [hc] at hd; cases hd
          exact decide_eq_true (by omega)
  ·
    have hkn : k = n := by omega
    have hal : (R.all fun c => numOk c.num) = true := List.all_eq_true.2 fun c hc => by
      have hobt := List.getElem?_of_mem hc
      obtain ⟨j, hj⟩ := hobt
      exact hall j c (by have := (List.getElem?_eq_some_iff.1 hj).1; omega) hj
    refine W_exit ?_
    refine thenX ?_
    refine loopX ?_
    refine blockX ?_
    refine thenN ?_
    refine W_seq ?_
    refine W_region ?_
    refine WR_val rfl (rn_move) ?_
    refine WR_val rfl (rn_lenSl (e := 112) (sz := 513) (by kernel_rfl) rfl rfl) ?_
    refine WR_val rfl (rn_geq rfl rfl) ?_
    refine WR_val rfl (rn_move) ?_
    refine WR_part 27 rfl (fun h1 => ?_) (fun h1 => ?_)
    ·
      refine WR_yes rfl ?_
      refine WR_val rfl (rn_move) ?_
      refine WR_yes rfl ?_
      refine WR_val rfl (rn_lenSl (e := 112) (sz := 513) (by kernel_rfl) rfl rfl) ?_
      refine WR_yes rfl ?_
      refine WR_val rfl (rn_leq rfl rfl) ?_
      refine WR_val rfl (rn_pick_t rfl) ?_
      refine WR_val rfl (rn_assign) ?_
      refine WR_nil ?_
      refine thenN ?_
      refine W_ret ?_
      refine ret_ret [_] ⟨rfl, trivial⟩ ?_
      have hd : decide ((k : Int) ≤ 60) = decide (1 ≤ k ∧ k ≤ 60) := decide_eq_decide.2 ⟨fun h => by omega, fun h => by omega⟩
      refine ⟨?_, rfl⟩
      rw [mayR, hal, Bool.and_true, hn, hkn.symm, ← hd]; rfl
    ·
      have hz : decide (1 ≤ n ∧ n ≤ 60) = false := decide_eq_false (by omega)
      refine WR_no rfl rfl ?_
      refine WR_no rfl rfl ?_
      refine WR_no rfl rfl ?_
      refine WR_val rfl (rn_pick_f rfl) ?_
      refine WR_val rfl (rn_assign) ?_
      refine WR_nil ?_
      refine thenN ?_
      refine W_ret ?_
      refine ret_ret [_] ⟨rfl, trivial⟩ ?_
      exact ⟨by rw [mayR, hal, Bool.and_true, hn, hz]; rfl, rfl⟩
end Go.Proofs.YtkkgahgpemepeaaGreat
namespace Coup
open Go Go.RowKit
section
variable {P : Program} {ρ : Env} {w : World} {d : Option Nat} {ty : TypeId} {pos : String} {af : Array Edge} {gd : Option (Nat × Bool)}
theorem run_equal_bytesD (dd : Nat) {t n : Nat} (ht : byteArr P t n = true) (a b : List UInt8) (ha : a.length = n) (hb : b.length = n) (w : World) : (Op.equalIn (dd + 1 + 1) t (.agg (bv a).toArray) (.agg (bv b).toArray)).run P w = .ok (decide (a = b)) w := by
  unfold byteArr at ht
  simp only [Bool.and_eq_true] at ht
  have h1 := ht.1
  split at h1
  · rename_i m e hu
    simp only [Bool.and_eq_true] at h1
    obtain ⟨⟨⟨h2, h3⟩, h4⟩, h5⟩ := h1
    have he : P.underlying e = some (.int .u8) := by
      split at h3
      · assumption
      · cases h3
    obtain ⟨i, hi⟩ := Option.isSome_iff_exists.1 h5
    rw [run_equalIn_array w (dd + 1) _ _ hu hi, Nat.eq_of_beq_eq_true h4, Nat.eq_of_beq_eq_true h2, eqItems_bytes dd he _ a b w (by intro i hi; simp at hi; omega) (by omega),
      ← ha, all_range_eq a b (by omega)]
  · cases h1
def numBytesT (P : Program) (t : Nat) (k : IntKind) (n : Nat) : Bool :=
  (match P.underlying t with
   | some (.struct fs) => (match fs.toList with
     | [f0, f1] => (f0.name != "_") && (f1.name != "_") && Nat.beq f0.offset 0 && Nat.beq f1.offset 1 && intT P f0.type k && byteArr P f1.type n && (match P.info? f1.type with | some i => Nat.beq i.size n | none => false) && (match P.underlying f1.type with | some (.array _ _) => true | _ => false)
     | _ => false)
   | _ => false) && !P.eqGuardType P.depth t && !P.stoodInHeld t
theorem run_equal_numBytes {t n : Nat} {k : IntKind} (ht : numBytesT P t k n = true) (a b : Int) (x y : List UInt8) (hx : x.length = n) (hy : y.length = n) (w : World) :
    (Op.equalIn 10000 t (.agg (Value.int k a :: bv x).toArray) (.agg (Value.int k b :: bv y).toArray)).run P w = .ok (decide (a = b ∧ x = y)) w := by
  unfold numBytesT at ht
  simp only [Bool.and_eq_true, Bool.not_eq_true'] at ht
  obtain ⟨⟨h1, _⟩, h3⟩ := ht
  split at h1
  · rename_i fs hu
    split at h1
    · rename_i f0 f1 hfs
      simp only [Bool.and_eq_true, bne_iff_ne, ne_eq] at h1
      obtain ⟨⟨⟨⟨⟨⟨⟨n0, n1⟩, o0⟩, o1⟩, i0⟩, i1⟩, hsz⟩, hag⟩ := h1
      have u0 := intT_under i0
      have hf : P.fieldsOf t = fs := by simp [Program.fieldsOf, hu]
      rw [show 10000 = 9999 + 1 from rfl, run_equalIn_struct w 9999 t _ _ (by rw [hf]; exact hu) h3, hf, hfs]
      have g0 : (isAgg f0.type).run P w = .ok false w := by simp [isAgg, run_underlying u0]
      have g1 : (isAgg f1.type).run P w = .ok true w := by
        split at hag
        · rename_i hua; simp [isAgg, run_underlying hua]
        · cases hag
      obtain ⟨inf, hinf, hsn⟩ : ∃ i, P.info? f1.type = some i ∧ i.size = n := by
        split at hsz
        · rename_i i hi; exact ⟨i, hi, Nat.eq_of_beq_eq_true hsz⟩
        · cases hsz
      have e0 := Nat.eq_of_beq_eq_true o0
      have e1 := Nat.eq_of_beq_eq_true o1
      have p0 : ∀ (c : Int) (l : List UInt8), (part f0.type (Value.int k c :: bv l).toArray f0.offset).run P w = .ok (.int k c) w := fun c l => by simp [part, g0, e0, Result.andThen]
      have p1 : ∀ (c : Int) (l : List UInt8), l.length = n → (part f1.type (Value.int k c :: bv l).toArray f1.offset).run P w = .ok (.agg (bv l).toArray) w := fun c l hl => by
        have hex : (Value.int k c :: bv l).toArray.extract 1 (1 + n) = (bv l).toArray := by
          rw [List.extract_toArray, List.extract_eq_take_drop]
          simp [List.take_of_length_le, bv_length, hl]
        have hs : (Go.sizeOf f1.type).run P w = .ok n w := by simp [Go.sizeOf, typeInfo, hinf, hsn]
        simp only [part, Sem.run_bind, g1, Result.andThen_ok, ↓reduceIte, hs, Sem.run_pure, e1, hex]
      have s0 := run_equalIn_int w 9998 f0.type k k a b u0
      have s1 := run_equal_bytesD 9997 i1 x y hx hy w
      simp only [Op.eqFields, n0, n1, ne_eq, not_false_eq_true, if_true, Sem.run_bind, p0, p1 _ _ hx, p1 _ _ hy, Result.andThen_ok, show 9999 = 9998 + 1 from rfl, s0]
      by_cases h : a = b
      · subst h
        simp only [beq_self_eq_true, Bool.not_true, Bool.false_eq_true, if_false, Sem.run_bind, p1 _ _ hx, p1 _ _ hy, Result.andThen_ok, show 9998 = 9997 + 1 from rfl, s1]
        by_cases h' : x = y <;> simp [h']
      · have : (a == b) = false := by simpa using h
        simp [this, h]
    · cases h1
  · cases h1
theorem rn_neqC {t t' n : Nat} {k : IntKind} {x y : Operand} {a b : Int} {l m : List UInt8} (ht : numBytesT P t k n = true) (hx : ev ρ x = .agg (Value.int k a :: bv l).toArray) (hy : ev ρ y = .agg (Value.int k b :: bv m).toArray) (hl : l.length = n) (hm : m.length = n) :
    (execOp (ev ρ) ⟨d, .binOp .neq t x y t', ty, pos, af, gd⟩).run P w = .ok (.value (.bool (!decide (a = b ∧ l = m)))) w := by
  have hg : P.eqGuardType P.depth t = false := by
    unfold numBytesT at ht
    simp only [Bool.and_eq_true, Bool.not_eq_true'] at ht
    exact ht.1.2
  have h1 := run_eqGuard_agg (P := P) w .neq t x y (Value.int k a :: bv l).toArray (Value.int k b :: bv m).toArray hg
  simp only [execOp, hx, hy, Sem.run_bind, h1, Result.andThen_ok, run_neq_struct, run_equal_numBytes ht a b l m hl hm w]
  rfl
end
end Coup
namespace Go.Proofs.YtkkgahgpemepeaaGreat
open Go Go.RowKit Coup
theorem chs_ext {A B : Rec} (hl : A.length = B.length) (h : ∀ (j : Nat) (a b : Ch), A[j]? = some a → B[j]? = some b → a.num = b.num ∧ a.page = b.page) : A = B := by
  refine List.ext_getElem? fun j => ?_
  by_cases hj : j < A.length
  · have hj2 : j < B.length := by omega
    obtain ⟨a, ha⟩ : ∃ a, A[j]? = some a := ⟨_, List.getElem?_eq_getElem hj⟩
    obtain ⟨b, hb⟩ : ∃ b, B[j]? = some b := ⟨_, List.getElem?_eq_getElem hj2⟩
    have h1 := h j a b ha hb
    rw [ha, hb]
    cases a; cases b; simp at h1; rw [h1.1, h1.2]
  · rw [List.getElem?_eq_none (by omega), List.getElem?_eq_none (by omega)]
set_option maxRecDepth 20000 in
set_option maxHeartbeats 1000000 in
theorem same15 (A B : Rec) (hA : chsOk A) (hB : chsOk B) (p q : Option Addr) (n m cp cq : Nat) (w : World) (h : SlAt w p n 513 (chsV A)) (hn : A.length = n) (k : SlAt w q m 513 (chsV B)) (hm : B.length = m) (hn2 : n ≤ 1000000) :
    Calls Tryz.prog 49 [.slice p n cp, .slice q m cq].toArray w (Ret fun v w' => (∃ b, v = .bool b ∧ (b = true ↔ A = B)) ∧ Below w.heap.size w w') := by
  have hBe := Below.refl w.heap.size w
  refine calls_W (fn := Tryz.f49) (rs := [.tmp 4]) (n := 26) Tryz.func49 rfl rfl Tryz.ntmps49 (by kernel_rfl) rfl ?_
  refine W_seq ?_
  refine W_region ?_
  refine WR_val rfl (rn_assign) ?_
  refine WR_nil ?_
  refine thenN ?_
  refine W_seq ?_
  refine W_seq ?_
  refine W_region ?_
  refine WR_val rfl (rn_move) ?_
  refine WR_val rfl (rn_lenSl (e := 112) (sz := 513) (by kernel_rfl) rfl rfl) ?_
  refine WR_val rfl (rn_move) ?_
  refine WR_val rfl (rn_lenSl (e := 112) (sz := 513) (by kernel_rfl) rfl rfl) ?_
  refine WR_val rfl (rn_neq rfl rfl) ?_
  refine WR_nil ?_
  refine thenN ?_
  refine W_ifp rfl (fun hne => ?_) (fun hne => ?_)
  ·
    refine W_seq ?_
    refine W_region ?_
    refine WR_val rfl (rn_assign) ?_
    refine WR_nil ?_
    refine thenN ?_
    refine W_ret ?_
    refine thenR ?_
    refine ret_ret [_] ⟨rfl, trivial⟩ ?_
    exact ⟨⟨false, rfl, by constructor; · intro h; cases h
                           · intro h; rw [h] at hn; omega⟩, hBe⟩
  ·
    have hnm : n = m := by omega
    subst hnm
    refine W_skip ?_
    refine thenN ?_
    refine W_seq ?_
    refine W_seq ?_
    refine W_region ?_
    refine WR_val rfl (rn_assign) ?_
    refine WR_nil ?_
    refine thenN ?_
    refine W_block ?_
    refine W_loop (α := Nat) 0 (fun k => [(5, .int .i64 (k : Nat)), (0, .slice p n cp), (1, .slice q n cq)])
      (fun k w' => k ≤ n ∧ (∀ (j : Nat) (a b : Ch), j < k → A[j]? = some a → B[j]? = some b → a.num = b.num ∧ a.page = b.page) ∧ Below w.heap.size w w') (fun k => n - k) ⟨rfl, rfl, rfl, rfl⟩ ⟨Nat.zero_le _, fun j a b hj => by omega, hBe⟩ ?_
    clear hBe
    rintro i f wr ⟨hi, hall, hBe⟩
    refine W_seq ?_
    refine W_seq ?_
    refine W_region ?_
    refine WR_val rfl (rn_move) ?_
    refine WR_val rfl (rn_move) ?_
    refine WR_val rfl (rn_lenSl (e := 112) (sz := 513) (by kernel_rfl) rfl rfl) ?_
    refine WR_val rfl (rn_lss rfl rfl) ?_
    refine WR_nil ?_
    refine thenN ?_
    refine W_ifp rfl (fun hlt => ?_) (fun hlt => ?_)
    ·
      refine W_skip ?_
      refine thenN ?_
      refine W_seq ?_
      refine W_block ?_
      refine W_seq ?_
      have hex : (∃ a, A[i]? = some a) ∧ ∃ b, B[i]? = some b := ⟨⟨_, List.getElem?_eq_getElem (by omega)⟩, ⟨_, List.getElem?_eq_getElem (by omega)⟩⟩
      obtain ⟨⟨a, ha⟩, b, hb⟩ := hex
      have hobt := h.some (by omega)
      obtain ⟨g, o, rfl, _⟩ := hobt
      have hobt := k.some (by omega)
      obtain ⟨g', o', rfl, _⟩ := hobt
      have hap := hA a (List.mem_of_getElem? ha)
      have hbp := hB b (List.mem_of_getElem? hb)
      refine W_draw' [] (by kernel_rfl) ?_
      intro w901 hb901 hS901
      replace hBe := hBe.acc hb901
      have hBe_d901 := hBe
      refine WA_take 0 (by kernel_rfl) rfl (fun _ _ => rn_move) ?_
      refine WA_take 1 (by kernel_rfl) rfl (fun _ _ => rn_move) ?_
      refine WA_take 2 (by kernel_rfl) rfl (fun _ _ => rn_indexSl (e := 112) (sz := 513) (by kernel_rfl) rfl rfl (i) (by omega) (by omega)) ?_
      refine WA_take 3 (by kernel_rfl) rfl (fun w' hS' => rn_load rfl (ld_ch (h.below (hBe_d901.kpd hS' (by first | (simp; done) | (simp; omega) | (simp [*]; done) | exact notLL (Or.inl (by omega)) | exact notLL (Or.inr (by simp)) | exact fun g hm => Nat.le_trans (by omega) (inLL hm).1 | (intro b o e; cases e; exact notLL (Or.inl (by omega))) | (intro b hm; have := (hu.lt b (Option.mem_toList.1 hm)).1; omega) | (intro b o e; cases e; intro hm; have := (hu.lt _ (Option.mem_toList.1 hm)).1; omega))) (Nat.le_refl _)) hA ha)) ?_
      refine WA_take 4 (by kernel_rfl) rfl (fun _ _ => rn_move) ?_
      refine WA_take 5 (by kernel_rfl) rfl (fun _ _ => rn_move) ?_
      refine WA_take 6 (by kernel_rfl) rfl (fun _ _ => rn_indexSl (e := 112) (sz := 513) (by kernel_rfl) rfl rfl (i) (by omega) (by omega)) ?_
      refine WA_take 7 (by kernel_rfl) rfl (fun w' hS' => rn_load rfl (ld_ch (k.below (hBe_d901.kpd hS' (by first | (simp; done) | (simp; omega) | (simp [*]; done) | exact notLL (Or.inl (by omega)) | exact notLL (Or.inr (by simp)) | exact fun g hm => Nat.le_trans (by omega) (inLL hm).1 | (intro b o e; cases e; exact notLL (Or.inl (by omega))) | (intro b hm; have := (hu.lt b (Option.mem_toList.1 hm)).1; omega) | (intro b o e; cases e; intro hm; have := (hu.lt _ (Option.mem_toList.1 hm)).1; omega))) (Nat.le_refl _)) hB hb)) ?_
      refine WA_take 8 (by kernel_rfl) rfl (fun _ _ => rn_neqC (k := .i64) (n := 512) (by kernel_rfl) rfl rfl hap hbp) ?_
      refine WA_done (by kernel_rfl) ?_
      refine thenN ?_
      refine W_if rfl (fun hd => ?_) (fun hd => ?_)
      ·
        refine W_seq ?_
        refine W_region ?_
        refine WR_val rfl (rn_assign) ?_
        refine WR_nil ?_
        refine thenN ?_
        refine W_ret ?_
        refine blockR ?_
        refine thenR ?_
        refine loopR ?_
        refine blockR ?_
        refine thenR ?_
        refine ret_ret [_] ⟨rfl, trivial⟩ ?_
        exact ⟨⟨false, rfl, by constructor; · intro h; cases h
                               · intro h; subst h; rw [ha] at hb; cases hb; simp at hd⟩, hBe⟩
      ·
        have hd2 : a.num = b.num ∧ a.page = b.page := by simpa using hd
        refine W_skip ?_
        refine blockN ?_
        refine thenN ?_
        refine W_region ?_
        refine WR_val rfl (rn_move) ?_
        refine WR_val rfl (rn_add rfl rfl (Coup.w64 (by omega))) ?_
        refine WR_val rfl (rn_assign) ?_
        refine WR_nil ?_
        refine loopN ⟨i + 1, by omega, ⟨by go_num, rfl, rfl, rfl⟩, by omega, fun j c d hj hc hd => ?_, hBe⟩
        by_cases hji : j < i
        · exact hall j c d hji hc hd
        · obtain rfl : j = i := by omega
          rw [ha] at hc; rw [hb] at hd; cases hc; cases hd; exact hd2
    ·
      have hin : i = n := by omega
      subst hin
      have hAB : A = B := chs_ext (by omega) fun j a b ha hb => hall j a b (by have := (List.getElem?_eq_some_iff.1 ha).1; omega) ha hb
      refine W_exit ?_
      refine thenX ?_
      refine loopX ?_
      refine blockX ?_
      refine thenN ?_
      refine W_seq ?_
      refine W_region ?_
      refine WR_val rfl (rn_assign) ?_
      refine WR_nil ?_
      refine thenN ?_
      refine W_ret ?_
      refine ret_ret [_] ⟨rfl, trivial⟩ ?_
      exact ⟨⟨true, rfl, by simp [hAB]⟩, hBe⟩
end Go.Proofs.YtkkgahgpemepeaaGreat
namespace Go.Proofs.YtkkgahgpemepeaaGreat
open Go Go.RowKit Coup
def AllR (w : World) (p : Option Addr) (S : List Rec) : Prop := ∃ vs, SlAt w p S.length 1 vs ∧ ∀ (i : Nat) (r : Rec), S[i]? = some r → ∃ q c, vs[i]? = some (.slice q r.length c) ∧ SlAt w q r.length 513 (chsV r)
theorem AllZ.r {w : World} {p : Option Addr} {S : List Rec} {C : List Nat} (h : AllZ p S w C) : AllR w p S := by
  obtain ⟨_, vs, h2, _, h4⟩ := h
  exact ⟨vs, h2, fun i r hr => let ⟨b, off, c, h5, h6, _⟩ := h4 i r hr; ⟨_, c, h5, h6⟩⟩
theorem AllR.new {w w' : World} {p : Option Addr} {S : List Rec} (h : AllR w p S) (hb : Below w.heap.size w w') : AllR w' p S := by
  obtain ⟨vs, h2, h4⟩ := h
  exact ⟨vs, h2.new hb, fun i r hr => let ⟨q, c, h5, h6⟩ := h4 i r hr; ⟨q, c, h5, h6.new hb⟩⟩
def allOk (S : List Rec) : Prop := ∀ r ∈ S, chsOk r ∧ r.length ≤ 1000000
set_option maxRecDepth 20000 in
set_option maxHeartbeats 1000000 in
theorem sameAll37 (A B : List Rec) (hA : allOk A) (hB : allOk B) (p q : Option Addr) (n m cp cq : Nat) (w : World) (h : AllR w p A) (hn : A.length = n) (k : AllR w q B) (hm : B.length = m) (hn2 : n ≤ 1000000) :
    Calls Tryz.prog 15 [.slice p n cp, .slice q m cq].toArray w (Ret fun v w' => (∃ b, v = .bool b ∧ (b = true ↔ A = B)) ∧ Below w.heap.size w w') := by
  have hBe := Below.refl w.heap.size w
  obtain ⟨vs, hs, hat⟩ := h
  obtain ⟨us, ks, kat⟩ := k
  rw [hn] at hs
  rw [hm] at ks
  refine calls_W (fn := Tryz.f15) (rs := [.tmp 4]) (n := 27) Tryz.func15 rfl rfl Tryz.ntmps15 (by kernel_rfl) rfl ?_
  refine W_seq ?_
  refine W_region ?_
  refine WR_val rfl (rn_assign) ?_
  refine WR_nil ?_
  refine thenN ?_
  refine W_seq ?_
  refine W_seq ?_
  refine W_region ?_
  refine WR_val rfl (rn_move) ?_
  refine WR_val rfl (rn_lenSl (e := 60) (sz := 1) (by kernel_rfl) rfl rfl) ?_
  refine WR_val rfl (rn_move) ?_
  refine WR_val rfl (rn_lenSl (e := 60) (sz := 1) (by kernel_rfl) rfl rfl) ?_
  refine WR_val rfl (rn_neq rfl rfl) ?_
  refine WR_nil ?_
  refine thenN ?_
  refine W_ifp rfl (fun hne => ?_) (fun hne => ?_)
  ·
    refine W_seq ?_
    refine W_region ?_
    refine WR_val rfl (rn_assign) ?_
    refine WR_nil ?_
    refine thenN ?_
    refine W_ret ?_
    refine thenR ?_
    refine ret_ret [_] ⟨rfl, trivial⟩ ?_
    exact ⟨⟨false, rfl, by constructor; · intro h; cases h
                           · intro h; rw [h] at hn; omega⟩, hBe⟩
  ·
    have hnm : n = m := by omega
    subst hnm
    refine W_skip ?_
    refine thenN ?_
    refine W_seq ?_
    refine W_seq ?_
    refine W_region ?_
    refine WR_val rfl (rn_assign) ?_
    refine WR_nil ?_
    refine thenN ?_
    refine W_block ?_
    refine W_loop (α := Nat) 0 (fun k => [(5, .int .i64 (k : Nat)), (0, .slice p n cp), (1, .slice q n cq)])
      (fun k w' => k ≤ n ∧ (∀ j, j < k → A[j]? = B[j]?) ∧ Below w.heap.size w w') (fun k => n - k) ⟨rfl, rfl, rfl, rfl⟩ ⟨Nat.zero_le _, fun j hj => by omega, hBe⟩ ?_
    clear hBe
    rintro i f wr ⟨hi, hall, hBe⟩
    refine W_seq ?_
    refine W_seq ?_
    refine W_region ?_
    refine WR_val rfl (rn_move) ?_
    refine WR_val rfl (rn_move) ?_
    refine WR_val rfl (rn_lenSl (e := 60) (sz := 1) (by kernel_rfl) rfl rfl) ?_
    refine WR_val rfl (rn_lss rfl rfl) ?_
    refine WR_nil ?_
    refine thenN ?_
    refine W_ifp rfl (fun hlt => ?_) (fun hlt => ?_)
    ·
      refine W_skip ?_
      refine thenN ?_
      refine W_seq ?_
      refine W_block ?_
      refine W_seq ?_
      have hex : (∃ a, A[i]? = some a) ∧ ∃ b, B[i]? = some b := ⟨⟨_, List.getElem?_eq_getElem (by omega)⟩, ⟨_, List.getElem?_eq_getElem (by omega)⟩⟩
      obtain ⟨⟨a, ha⟩, b, hb⟩ := hex
      have hobt := hs.some (by omega)
      obtain ⟨g, o, rfl, _⟩ := hobt
      have hobt := ks.some (by omega)
      obtain ⟨g', o', rfl, _⟩ := hobt
      have hobt := hat i a ha
      obtain ⟨q1, c1, hv1, hq1⟩ := hobt
      have hobt := kat i b hb
      obtain ⟨q2, c2, hv2, hq2⟩ := hobt
      have hap := hA a (List.mem_of_getElem? ha)
      have hbp := hB b (List.mem_of_getElem? hb)
      refine W_draw' [] (by kernel_rfl) ?_
      intro w901 hb901 hS901
      replace hBe := hBe.acc hb901
      have hBe_d901 := hBe
      refine WA_take 0 (by kernel_rfl) rfl (fun _ _ => rn_move) ?_
      refine WA_take 1 (by kernel_rfl) rfl (fun _ _ => rn_move) ?_
      refine WA_take 2 (by kernel_rfl) rfl (fun _ _ => rn_indexSl1 (e := 60) (by kernel_rfl) rfl rfl (i) (by omega) (by omega)) ?_
      refine WA_take 3 (by kernel_rfl) rfl (fun w' hS' => rn_load rfl (Ld.sl1 (hs.below (hBe_d901.kpd hS' (by first | (simp; done) | (simp; omega) | (simp [*]; done) | exact notLL (Or.inl (by omega)) | exact notLL (Or.inr (by simp)) | exact fun g hm => Nat.le_trans (by omega) (inLL hm).1 | (intro b o e; cases e; exact notLL (Or.inl (by omega))) | (intro b hm; have := (hu.lt b (Option.mem_toList.1 hm)).1; omega) | (intro b o e; cases e; intro hm; have := (hu.lt _ (Option.mem_toList.1 hm)).1; omega))) (Nat.le_refl _)) (by kernel_rfl) hv1)) ?_
      refine WA_take 4 (by kernel_rfl) rfl (fun _ _ => rn_move) ?_
      refine WA_take 5 (by kernel_rfl) rfl (fun _ _ => rn_move) ?_
      refine WA_take 6 (by kernel_rfl) rfl (fun _ _ => rn_indexSl1 (e := 60) (by kernel_rfl) rfl rfl (i) (by omega) (by omega)) ?_
      refine WA_take 7 (by kernel_rfl) rfl (fun w' hS' => rn_load rfl (Ld.sl1 (ks.below (hBe_d901.kpd hS' (by first | (simp; done) | (simp; omega) | (simp [*]; done) | exact notLL (Or.inl (by omega)) | exact notLL (Or.inr (by simp)) | exact fun g hm => Nat.le_trans (by omega) (inLL hm).1 | (intro b o e; cases e; exact notLL (Or.inl (by omega))) | (intro b hm; have := (hu.lt b (Option.mem_toList.1 hm)).1; omega) | (intro b o e; cases e; intro hm; have := (hu.lt _ (Option.mem_toList.1 hm)).1; omega))) (Nat.le_refl _)) (by kernel_rfl) hv2)) ?_
      refine WA_one 8 (by kernel_rfl) ?_
      refine WO_ent rfl rfl (rn_call (by kernel_rfl) rfl) (same15 a b hap.1 hbp.1 q1 q2 a.length b.length c1 c2 w901 (hq1.below hBe (Nat.le_refl _)) rfl (hq2.below hBe (Nat.le_refl _)) rfl hap.2) ?_
      rintro _ w25 ⟨⟨bb, rfl, hbb⟩, hb25⟩
      have hS902 := hS901.add0 hb25
      refine ⟨hS902, ?_⟩
      replace hBe := hBe.acc hb25
      refine WA_take 9 (by kernel_rfl) rfl (fun _ _ => rn_not rfl) ?_
      refine WA_done (by kernel_rfl) ?_
      refine thenN ?_
      refine W_ifnb rfl (fun hd => ?_) (fun hd => ?_)
      ·
        refine W_seq ?_
        refine W_region ?_
        refine WR_val rfl (rn_assign) ?_
        refine WR_nil ?_
        refine thenN ?_
        refine W_ret ?_
        refine blockR ?_
        refine thenR ?_
        refine loopR ?_
        refine blockR ?_
        refine thenR ?_
        refine ret_ret [_] ⟨rfl, trivial⟩ ?_
        exact ⟨⟨false, rfl, by constructor; · intro h; cases h
                               · intro h; subst h; rw [ha] at hb; cases hb; rw [hbb.2 rfl] at hd; cases hd⟩, hBe⟩
      ·
        have hab : a = b := hbb.1 hd
        refine W_skip ?_
        refine blockN ?_
        refine thenN ?_
        refine W_region ?_
        refine WR_val rfl (rn_move) ?_
        refine WR_val rfl (rn_add rfl rfl (Coup.w64 (by omega))) ?_
        refine WR_val rfl (rn_assign) ?_
        refine WR_nil ?_
        refine loopN ⟨i + 1, by omega, ⟨by go_num, rfl, rfl, rfl⟩, by omega, fun j hj => ?_, hBe⟩
        by_cases hji : j < i
        · exact hall j hji
        · obtain rfl : j = i := by omega
          rw [ha, hb, hab]
    ·
      have hin : i = n := by omega
      subst hin
      have hAB : A = B := List.ext_getElem? fun j => by
        by_cases hj : j < i
        · exact hall j hj
        · rw [List.getElem?_eq_none (by omega), List.getElem?_eq_none (by omega)]
      refine W_exit ?_
      refine thenX ?_
      refine loopX ?_
      refine blockX ?_
      refine thenN ?_
      refine W_seq ?_
      refine W_region ?_
      refine WR_val rfl (rn_assign) ?_
      refine WR_nil ?_
      refine thenN ?_
      refine W_ret ?_
      refine ret_ret [_] ⟨rfl, trivial⟩ ?_
      exact ⟨⟨true, rfl, by simp [hAB]⟩, hBe⟩
end Go.Proofs.YtkkgahgpemepeaaGreat
namespace Go.Proofs.YtkkgahgpemepeaaGreat
open Go Go.RowKit Coup
theorem sl_page {w : World} {g o n : Nat} {R : Rec} (h : SlAt w (some ⟨g, o, none⟩) n 513 (chsV R)) (hR : chsOk R) {i : Nat} {c : Ch} (hc : R[i]? = some c) : SlAt w (some ⟨g, o + i * 513 + 1, none⟩) 512 1 (bv c.page) := by
  have hi := (List.getElem?_eq_some_iff.1 hc).1
  have hl := chsV_len hR
  have hp := hR c (List.mem_of_getElem? hc)
  have hat := chsV_at hR hc
  have h0 := h.len
  obtain ⟨_, _, he, hlt⟩ := h.some (by omega)
  cases he
  refine ⟨by rw [bv_length, hp], by unfold maxLen; omega, fun _ => ⟨g, o + i * 513 + 1, rfl, hlt, fun j hj => ?_⟩⟩
  obtain ⟨v, hv⟩ : ∃ v, (bv c.page)[j]? = some v := ⟨_, List.getElem?_eq_getElem (by rw [bv_length]; omega)⟩
  have h2 := congrArg (fun z => z[j + 1]?) hat
  have h3 : (chsV R)[i * 513 + (j + 1)]? = some v := by
    simpa [List.getElem?_take, List.getElem?_drop, chV, hv, show j + 1 < 513 by omega] using h2
  have h4 := h.cell _ h3
  rw [hv, ← h4]
  show w.cell? ⟨g, o + i * 513 + 1 + j, none⟩ = w.cell? ⟨g, o + (i * 513 + (j + 1)), none⟩
  congr 2; omega
set_option maxRecDepth 20000 in
set_option maxHeartbeats 1000000 in
theorem bytes14 (R : Rec) (hR : chsOk R) (hnum : ∀ c ∈ R, numOk c.num = true) (p : Option Addr) (n cp : Nat) (w : World) (h : SlAt w p n 513 (chsV R)) (hn : R.length = n) (hn2 : n ≤ 1000000) :
    Calls Tryz.prog 82 [.slice p n cp].toArray w (Ret fun v w' => ownsAt w' w.heap.size 5 1 v (516 * n) (bv (recB R)) ∧ Below w.heap.size w w') := by
  have hB := Below.refl w.heap.size w
  have hml : maxLen = 9223372036854775807 := by decide
  refine calls_W (fn := Tryz.f82) (rs := [.tmp 2]) (n := 27) Tryz.func82 rfl rfl Tryz.ntmps82 (by kernel_rfl) rfl ?_
  refine W_seq ?_
  refine W_region ?_
  refine WR_val rfl (rn_assign) ?_
  refine WR_nil ?_
  refine thenN ?_
  refine W_seq ?_
  refine W_region ?_
  refine WR_val rfl (rn_assign) ?_
  refine WR_nil ?_
  refine thenN ?_
  refine W_seq ?_
  refine W_seq ?_
  refine W_region ?_
  refine WR_val rfl (rn_assign) ?_
  refine WR_nil ?_
  refine thenN ?_
  refine W_block ?_
  refine W_loop (α := Nat × Value) (0, .slice none 0 0) (fun k => [(4, .int .i64 (k.1 : Nat)), (3, k.2), (0, .slice p n cp)])
    (fun k w' => k.1 ≤ n ∧ ownsAt w' w.heap.size 5 1 k.2 (516 * k.1) (bv (recB (R.take k.1))) ∧ Below w.heap.size w w') (fun k => n - k.1) ⟨rfl, rfl, rfl, rfl⟩ ⟨Nat.zero_le _, ownsAt_nil _ _ _ _, hB⟩ ?_
  clear hB
  rintro ⟨i, u⟩ f wr ⟨hi, hu, hB⟩
  dsimp only at *
  refine W_seq ?_
  refine W_seq ?_
  refine W_region ?_
  refine WR_val rfl (rn_move) ?_
  refine WR_val rfl (rn_move) ?_
  refine WR_val rfl (rn_lenSl (e := 112) (sz := 513) (by kernel_rfl) rfl rfl) ?_
  refine WR_val rfl (rn_lss rfl rfl) ?_
  refine WR_nil ?_
  refine thenN ?_
  refine W_ifp rfl (fun hlt => ?_) (fun hlt => ?_)
  ·
    refine W_skip ?_
    refine thenN ?_
    refine W_seq ?_
    refine W_block ?_
    have hex : ∃ c, R[i]? = some c := ⟨_, List.getElem?_eq_getElem (by omega)⟩
    obtain ⟨c, hc⟩ := hex
    have hobt := h.some (by omega)
    obtain ⟨g, o, rfl, _⟩ := hobt
    have hno := of_decide_eq_true (hnum c (List.mem_of_getElem? hc))
    have hobt : ∃ k : Nat, c.num = k := ⟨c.num.toNat, by omega⟩
    obtain ⟨kk, hkk⟩ := hobt
    have hld := fun w' (hb : Below w.heap.size w w') => ld_num (h.below hb (Nat.le_refl _)) hR hc
    have hpg := fun w' (hb : Below w.heap.size w w') => sl_page (h.below hb (Nat.le_refl _)) hR hc
    rw [hkk] at hld
    have htk : R.take (i + 1) = R.take i ++ [c] := by rw [List.take_add_one, hc]; rfl
    have hrs : recB (R.take (i + 1)) = recB (R.take i) ++ (beB 4 kk ++ c.page) := by rw [htk, recB_snoc, hkk, Int.toNat_natCast]
    refine W_draw' (u.ownBlock.toList) (by kernel_rfl) ?_
    intro w901 hb901 hS901
    replace hu := hu.new hb901
    replace hB := hB.acc hb901
    have hu_d901 := hu
    have hB_d901 := hB
    refine WA_take 0 (by kernel_rfl) rfl (fun _ _ => rn_move) ?_
    refine WA_take 1 (by kernel_rfl) rfl (fun _ _ => rn_move) ?_
    refine WA_take 2 (by kernel_rfl) rfl (fun _ _ => rn_move) ?_
    refine WA_take 3 (by kernel_rfl) rfl (fun _ _ => rn_indexSl (e := 112) (sz := 513) (by kernel_rfl) rfl rfl (i) (by omega) (by omega)) ?_
    refine WA_take 4 (by kernel_rfl) rfl (fun _ _ => rn_fieldAddr (off := 0) (by kernel_rfl) rfl) ?_
    refine WA_take 5 (by kernel_rfl) rfl (fun w' hS' => rn_load rfl (hld _ (hB_d901.kpd hS' (by first | (simp; done) | (simp; omega) | (simp [*]; done) | exact notLL (Or.inl (by omega)) | exact notLL (Or.inr (by simp)) | exact fun g hm => Nat.le_trans (by omega) (inLL hm).1 | (intro b o e; cases e; exact notLL (Or.inl (by omega))) | (intro b hm; have := (hu.lt b (Option.mem_toList.1 hm)).1; omega) | (intro b o e; cases e; intro hm; have := (hu.lt _ (Option.mem_toList.1 hm)).1; omega))))) ?_
    refine WA_take 6 (by kernel_rfl) rfl (fun _ _ => rn_conv (k := .u64) (by kernel_rfl) (by kernel_rfl) rfl (wu64 (by omega))) ?_
    refine WA_take 9 (by kernel_rfl) rfl (fun _ _ => rn_move) ?_
    refine WA_take 10 (by kernel_rfl) rfl (fun _ _ => rn_move) ?_
    refine WA_take 11 (by kernel_rfl) rfl (fun _ _ => rn_indexSl (e := 112) (sz := 513) (by kernel_rfl) rfl rfl (i) (by omega) (by omega)) ?_
    refine WA_take 12 (by kernel_rfl) rfl (fun _ _ => rn_fieldAddr (off := 1) (by kernel_rfl) rfl) ?_
    refine WA_take 13 (by kernel_rfl) rfl (fun _ _ => rn_sliceAr1' (e := 5) (n := 512) (0) (512) (512) (512) (by kernel_rfl) rfl rfl rfl rfl (by simp) (by omega) (by omega) (by omega) (by omega) (by omega)) ?_
    refine WA_one 7 (by kernel_rfl) ?_
    refine WO_ent rfl rfl (rn_call (by kernel_rfl) rfl) (put34r kk (by omega) 4 (by omega) w901) ?_
    rintro _ w18 ⟨gp, rfl, hgp, hrp, hb18⟩
    have ge_hS901_gp := Nat.le_trans hS901.size hgp
    have ge_hB_gp := Nat.le_trans hB.size hgp
    have hS902 := hS901.add0 hb18
    refine ⟨hS902, ?_⟩
    replace hu := hu.new hb18
    replace hB := hB.acc hb18
    refine WA_one 8 (by kernel_rfl) ?_
    have hz18 := hb18.size
    have hs18 := hrp.slA (m := 4) (sz := 1) (by rw [bv_length, beB_length]) (by omega)
    have sz_hB_19 := hB.size
    refine WO_mk rfl rfl (mk_append (e := 5) (sz := 1) (bytes := 1) (z := Value.int .u8 0) (by kernel_rfl) rfl (by kernel_rfl) rfl (by decide) rfl hu rfl hs18 (bv_one _) (by unfold maxLen; omega) (by omega) (fun hm0 => by omega) (fun v19 w19 hv19 hgr19 hfr19 => ?_))
    have hS903 := hS902.ownS hu hgr19 (by first | (left; omega) | exact Or.inr (fun _ h => h) | exact Or.inr (fun _ h => List.mem_cons_of_mem _ h))
    refine ⟨hS903, ?_⟩
    replace hB := hB.own hu hgr19 (by omega)
    refine WA_one 14 (by kernel_rfl) ?_
    have sz_hB_25 := hB.size
    refine WO_mk rfl rfl (mk_append (e := 5) (sz := 1) (bytes := 1) (z := Value.int .u8 0) (by kernel_rfl) rfl (by kernel_rfl) rfl (by decide) rfl hv19 rfl (hpg _ hB) (bv_one _) (by unfold maxLen; omega) (by omega) (fun hm0 => by omega) (fun v25 w25 hv25 hgr25 hfr25 => ?_))
    have hS904 := hS903.add (Kp.of_grown hgr25) (fun g hm => by first | exact Or.inr hm | exact Or.inr (List.mem_cons_of_mem _ hm) | (have := (hv19.lt g (Option.mem_toList.1 hm)).1; left; omega) | exact (hfr19 g (Option.mem_toList.1 hm)).elim (fun e => Or.inr (Option.mem_toList.2 e)) (fun e => Or.inl (by omega)) | exact (hfr19 g (Option.mem_toList.1 hm)).elim (fun e => Or.inr (List.mem_cons_of_mem _ (Option.mem_toList.2 e))) (fun e => Or.inl (by omega)))
    refine ⟨hS904, ?_⟩
    replace hB := hB.own hv19 hgr25 (by omega)
    refine WA_take 15 (by kernel_rfl) rfl (fun _ _ => rn_assign) ?_
    refine WA_done (by kernel_rfl) ?_
    refine blockN ?_
    refine thenN ?_
    refine W_region ?_
    refine WR_val rfl (rn_move) ?_
    refine WR_val rfl (rn_add rfl rfl (Coup.w64 (by omega))) ?_
    refine WR_val rfl (rn_assign) ?_
    refine WR_nil ?_
    rw [← bv_append, ← bv_append, List.append_assoc, ← hrs] at hv25
    refine loopN ⟨(i + 1, v25), by show n - (i + 1) < n - i; omega, ⟨by go_num, rfl, rfl, rfl⟩, by show i + 1 ≤ n; omega, ?_, hB⟩
    show ownsAt _ _ _ _ v25 (516 * (i + 1)) (bv (recB (R.take (i + 1))))
    rw [show 516 * (i + 1) = 516 * i + 4 + 512 by omega]
    exact hv25
  ·
    have hin : i = n := by omega
    subst hin
    rw [List.take_of_length_le (by omega)] at hu
    refine W_exit ?_
    refine thenX ?_
    refine loopX ?_
    refine blockX ?_
    refine thenN ?_
    refine W_seq ?_
    refine W_region ?_
    refine WR_val rfl (rn_move) ?_
    refine WR_val rfl (rn_assign) ?_
    refine WR_nil ?_
    refine thenN ?_
    refine W_ret ?_
    refine ret_ret [_] ⟨rfl, trivial⟩ ?_
    exact ⟨hu, hB⟩
end Go.Proofs.YtkkgahgpemepeaaGreat
namespace Coup
open Go Go.RowKit
section
variable {P : Program} {ρ : Env} {w : World} {d : Option Nat} {ty : TypeId} {pos : String} {af : Array Edge} {gd : Option (Nat × Bool)} {K : Value → World → Prop}
theorem freeze_row {g tt k : Nat} {cs : List Value} (hr : row w g cs tt) : (w.freeze ⟨g, k, none⟩ 1).heap[g]? = some (.cells cs.toArray tt (k, k + 1)) ∧ Only g w (w.freeze ⟨g, k, none⟩ 1) := by
  have hr' : w.heap[g]? = some (.cells cs.toArray tt) := hr
  refine ⟨?_, ?_⟩
  · unfold World.freeze
    rw [if_neg (by decide)]
    simp [Array.getElem?_modify, hr']
  · unfold World.freeze
    rw [if_neg (by decide)]
    refine ⟨rfl, rfl, rfl, by simp, fun j hj => ?_⟩
    simp [Array.getElem?_modify, Ne.symm hj]
theorem mk_mark {t e g n c tt : Nat} {x : Operand} {cs : List Value} (ht : P.underlying t = some (.slice e)) (he : P.underlying e = some (.int .u8)) (hx : ev ρ x = .slice (some ⟨g, 0, none⟩) n c) (hr : row w g cs tt) (hn : cs.length = n) (hm : n ≤ maxLen)
    (h : ∀ w', SlAt w' (some ⟨g, 0, none⟩) n 1 cs → Only g w w' → K (.slice (some ⟨g, 0, none⟩) n c) w') : Mk P ρ w ⟨d, .convert t t x, ty, pos, af, gd⟩ K := by
  have hr' : w.heap[g]? = some (.cells cs.toArray tt) := hr
  have hsh : w.shape? g = some (tt, cs.length) := by unfold World.shape?; rw [hr']; simp
  obtain ⟨h1, h2⟩ := freeze_row (k := cs.length) hr
  have hrun : (convert t t (.slice (some ⟨g, 0, none⟩) n c)).run P w = .ok (.slice (some ⟨g, 0, none⟩) n c) (w.freeze ⟨g, cs.length, none⟩ 1) := by
    simp [convert, run_underlying ht, run_underlying he, markStringish, hsh]
  refine ⟨_, _, ?_, h _ ⟨by rw [hn, Nat.mul_one], hm, fun h0 => ⟨g, 0, rfl, ?_, fun j hj => ?_⟩⟩ h2⟩
  · simp only [execOp, hx, Sem.run_bind, hrun, Result.andThen_ok]; rfl
  · exact (Array.getElem?_eq_some_iff.1 h1).1
  · unfold World.cell?
    rw [h1]
    simp
theorem mk_appendN {t t' e sz bytes : Nat} {s x : Operand} {m k c cap g0 o0 : Nat} {xs news : List Value} {sp : Option Addr} {z : Value} (ht : P.underlying t = some (.slice e)) (ht' : t' = t)
    (hi : (P.info? e).map (fun i => (i.zero, i.size, i.bytes)) = some (some z, sz, bytes)) (hzs : z.cells.size = sz) (hsz : 0 < sz) (hs : ev ρ s = .slice (some ⟨g0, o0, none⟩) m cap) (hold : SlAt w (some ⟨g0, o0, none⟩) m sz xs)
    (hx : ev ρ x = .slice sp k c) (hsrc : SlAt w sp k sz news) (hcap : cap < m + k) (hk : 0 < k) (h63 : m + k ≤ maxLen) (hbytes : (m + k) * bytes ≤ 140737488355328)
    (h : ∀ v' w', ownsAt w' w.heap.size e sz v' (m + k) (xs ++ news) → Below w.heap.size w w' → K v' w') : Mk P ρ w ⟨d, .call ⟨.builtin .append, #[s, x], #[t, t']⟩, ty, pos, af, gd⟩ K := by
  subst ht'
  obtain ⟨i, hq, hzz⟩ := Option.map_eq_some_iff.1 hi
  simp only [Prod.mk.injEq] at hzz
  obtain ⟨hz, hsize, hby⟩ := hzz
  obtain ⟨g1, o1, rfl, _⟩ := hsrc.some (Nat.mul_pos hk hsz)
  obtain ⟨v', w', hr, h2, h3⟩ := run_append_arg_grows (P := P) (w := w) t' ty e i z sz bytes ht hq hz hsize hby hzs hsz ⟨g0, o0, none⟩ m cap xs hold.len (fun j u hu => by rw [Addr.add_lit]; exact hold.cell j hu) ⟨g1, o1, none⟩ k c news hsrc.len
    (fun j u hu => by rw [Addr.add_lit]; exact hsrc.cell j hu) hcap h63 hbytes
  refine ⟨_, w', ?_, h v' w' (ownsAt_of_row h2) ⟨h3.os, h3.tape, h3.output, h3.size, fun k hk => h3.block k hk (by simp)⟩⟩
  simp [execOp, resolve, invoke, builtin, hs, hx, hr, Result.andThen]
end
end Coup
namespace Go.Proofs.YtkkgahgpemepeaaGreat
open Go Go.RowKit Coup
set_option maxRecDepth 20000 in
theorem rhead28 (c s : Nat) (hc : c < 18446744073709551616) (hs : s < 18446744073709551616) (w : World) :
    Calls Tryz.prog 14 [.int .u64 (c : Int), .int .u64 (s : Int)].toArray w (Ret fun v w' => v = .agg (bv (headB c s)).toArray ∧ Below w.heap.size w w') := by
  have hB := Below.refl w.heap.size w
  have hml : maxLen = 9223372036854775807 := by decide
  have hhl := headB_len c s
  refine calls_W (fn := Tryz.f14) (rs := [.cell 4 45]) (n := 19) Tryz.func14 rfl rfl Tryz.ntmps14 (by kernel_rfl) rfl ?_
  refine W_seq ?_
  refine W_region ?_
  refine WR_mk rfl (mk_alloc (List.replicate 128 (Value.int .u8 0)) (by kernel_rfl) (fun g4 w4 hg4 hr4 hb4 => ?_))
  have ge_hB_g4 := Nat.le_trans hB.size hg4
  replace hB := hB.acc hb4
  refine WR_nil ?_
  refine thenN ?_
  refine W_seq ?_
  refine W_region ?_
  refine WR_mk rfl (mk_alloc (List.replicate 128 (Value.int .u8 0)) (by kernel_rfl) (fun g5 w5 hg5 hr5 hb5 => ?_))
  have ge_hB_g5 := Nat.le_trans hB.size hg5
  have lt_g4_g5 : g4 < g5 := Nat.lt_of_lt_of_le hr4.lt hg5
  replace hr4 := hr4.new hb5
  replace hB := hB.acc hb5
  refine WR_nil ?_
  refine thenN ?_
  refine W_seq ?_
  refine W_region ?_
  refine WR_mk rfl (mk_buildSlice (e := 5) [(0, .int .u8 67), (1, .int .u8 80), (2, .int .u8 76), (3, .int .u8 71)] [.int .u8 0] 1 (by kernel_rfl) (by kernel_rfl) rfl (by omega) (by omega) (by intro i hi; rcases i with _ | _ | _ | _ | i <;> first | (simp [Value.cells]; done) | (exfalso; simp only [List.length_cons, List.length_nil] at hi; omega)) (by simp [Value.cells]) (fun g7 w7 hg7 hr7 hb7 => ?_))
  have ge_hB_g7 := Nat.le_trans hB.size hg7
  have lt_g4_g7 : g4 < g7 := Nat.lt_of_lt_of_le hr4.lt hg7
  have lt_g5_g7 : g5 < g7 := Nat.lt_of_lt_of_le hr5.lt hg7
  replace hr4 := hr4.new hb7
  replace hr5 := hr5.new hb7
  replace hB := hB.acc hb7
  replace hr7 : row w7 g7 (bv magic) 5 := hr7
  have hr7k := hr7
  refine WR_mk rfl (mk_mark (e := 5) (by kernel_rfl) (by kernel_rfl) rfl hr7k rfl (by omega) (fun w8 hs8 ho8 => ?_))
  replace hr4 := hr4.only ho8 (Nat.ne_of_lt lt_g4_g7)
  replace hr5 := hr5.only ho8 (Nat.ne_of_lt lt_g5_g7)
  replace hB := ho8.below hB ge_hB_g7
  refine WR_val rfl (rn_move) ?_
  refine WR_ent rfl (rn_call (by kernel_rfl) rfl) (put34r c hc 8 (by omega) w8) ?_
  rintro _ w10 ⟨gp, rfl, hgp, hrp, hb10⟩
  have ge_hB_gp := Nat.le_trans hB.size hgp
  have lt_g4_gp : g4 < gp := Nat.lt_of_lt_of_le hr4.lt hgp
  have lt_g5_gp : g5 < gp := Nat.lt_of_lt_of_le hr5.lt hgp
  replace hr4 := hr4.new hb10
  replace hr5 := hr5.new hb10
  replace hs8 := hs8.new hb10
  replace hB := hB.acc hb10
  have hs10 := hrp.slA (m := 8) (sz := 1) (by rw [bv_length, beB_length]) (by omega)
  have hs8k := hs8
  have l4 := hr4.lt
  have l5 := hr5.lt
  refine WR_mk rfl (mk_appendN (e := 5) (sz := 1) (bytes := 1) (z := .int .u8 0) (by kernel_rfl) rfl (by kernel_rfl) rfl (by decide) rfl hs8k rfl hs10 (by omega) (by omega) (by omega) (by omega) (fun v11 w11 hv11 hb11 => ?_))
  replace hr4 := hr4.new hb11
  replace hr5 := hr5.new hb11
  replace hB := hB.acc hb11
  refine WR_val rfl (rn_move) ?_
  refine WR_ent rfl (rn_call (by kernel_rfl) rfl) (put34r s hs 8 (by omega) w11) ?_
  rintro _ w13 ⟨gq, rfl, hgq, hrq, hb13⟩
  have ge_hB_gq := Nat.le_trans hB.size hgq
  have lt_g4_gq : g4 < gq := Nat.lt_of_lt_of_le hr4.lt hgq
  have lt_g5_gq : g5 < gq := Nat.lt_of_lt_of_le hr5.lt hgq
  replace hr4 := hr4.new hb13
  replace hr5 := hr5.new hb13
  replace hv11 := hv11.new hb13
  replace hB := hB.acc hb13
  have hs13 := hrq.slA (m := 8) (sz := 1) (by rw [bv_length, beB_length]) (by omega)
  have sz_hB_14 := hB.size
  refine WR_mk rfl (mk_append (e := 5) (sz := 1) (bytes := 1) (z := Value.int .u8 0) (by kernel_rfl) rfl (by kernel_rfl) rfl (by decide) rfl hv11 rfl hs13 (bv_one _) (by unfold maxLen; omega) (by omega) (fun hm0 => by omega) (fun v14 w14 hv14 hgr14 hfr14 => ?_))
  replace hr4 := hr4.own hv11 hgr14 (by omega)
  replace hr5 := hr5.own hv11 hgr14 (by omega)
  replace hB := hB.own hv11 hgr14 (by omega)
  refine WR_val rfl (rn_assign) ?_
  refine WR_nil ?_
  refine thenN ?_
  refine W_seq ?_
  refine W_region ?_
  refine WR_val rfl (rn_sliceAr1' (e := 5) (n := 128) (0) (128) (128) (128) (by kernel_rfl) rfl rfl rfl rfl (by simp) (by omega) (by omega) (by omega) (by omega) (by omega)) ?_
  refine WR_val rfl (rn_move) ?_
  have hobt := hv14.form' (by omega)
  obtain ⟨gh, oh, ch, rfl, hgh1, hgh2, hch⟩ := hobt
  have hall := hv14.sl
  rw [← bv_append, ← bv_append] at hall
  refine WR_mk rfl (mk_copy (e := 5) (by kernel_rfl) (by kernel_rfl) rfl rfl g5 (0) hr5 (bv ((magic ++ beB 8 c) ++ beB 8 s)) (by simp [bv_length, magic, beB_length]) (fun _ => ⟨rfl, _, rfl, fun j v hv => by rw [Addr.add_lit]; exact hall.cell j hv⟩) (by simp [bv_length, magic, beB_length]) (bv_one _) (fun w17 hr5 ho17 => ?_))
  replace hr4 := hr4.only ho17 (Nat.ne_of_lt lt_g4_g5)
  replace hB := ho17.below hB ge_hB_g5
  have hsp : splice (List.replicate 128 (Value.int .u8 0)) 0 (bv ((magic ++ beB 8 c) ++ beB 8 s)) = bv (headB c s) := by
    have h0 : (List.replicate 128 (Value.int .u8 0)).drop (0 + (bv ((magic ++ beB 8 c) ++ beB 8 s)).length) = bv (zerosB 108) := by rw [bv_zeros]; simp [bv_length, magic, beB_length, byteV]
    rw [splice, h0, List.take_zero, List.nil_append, ← bv_append, headB, List.append_assoc, List.append_assoc]
  replace hr5 := hsp ▸ hr5
  refine WR_nil ?_
  refine thenN ?_
  refine W_seq ?_
  refine W_region ?_
  refine WR_val rfl (rn_load rfl (Ld.rowA (k := 128) hr5 (by kernel_rfl) (by kernel_rfl) (by rw [bv_length, hhl]))) ?_
  refine WR_sk rfl (sk_storeA 128 (bv (headB c s)) rfl rfl hr4 (by kernel_rfl) (by first | assumption | (simp; done) | (simp [bv_length, *]; done)) (by first | assumption | (simp; done) | (simp [bv_length, *]; done) | rfl) (by first | exact bv_one _ | assumption | (simp [Value.oneCell']; done)) (fun w901 hr4 ho901 => ?_))
  replace hr5 := hr5.only ho901 (Nat.ne_of_gt lt_g4_g5)
  replace hB := ho901.below hB ge_hB_g4
  refine WR_nil ?_
  refine thenN ?_
  refine W_ret ?_
  refine ret_ret [_] ⟨⟨_, rfl, Ld.rowA (k := 128) hr4 (by kernel_rfl) (by kernel_rfl) (by first | (simp; done) | (simp [bv_length, *]; done) | assumption)⟩, trivial⟩ ?_
  exact ⟨rfl, hB⟩
end Go.Proofs.YtkkgahgpemepeaaGreat
namespace Go.Proofs.YtkkgahgpemepeaaGreat
open Go Go.RowKit Coup
def fillB (b : List UInt8) (i : Nat) : List UInt8 := (List.range 512).map fun j => if j < i then b.getD (j % b.length) 0 else 0
def pageB (b : List UInt8) : List UInt8 := if 0 < b.length then fillB b 512 else fillB b 0
theorem fillB_len (b : List UInt8) (i : Nat) : (fillB b i).length = 512 := by simp [fillB]
theorem pageB_len (b : List UInt8) : (pageB b).length = 512 := by unfold pageB; split <;> exact fillB_len ..
theorem fillB_set (b : List UInt8) {i : Nat} (h : i < 512) : (bv (fillB b i)).set i (byteV (b.getD (i % b.length) 0)) = bv (fillB b (i + 1)) := by
  suffices hs : (fillB b i).set i (b.getD (i % b.length) 0) = fillB b (i + 1) by rw [← hs]; exact set_bv _ _ _
  refine List.ext_getElem? fun j => ?_
  rw [List.getElem?_set, fillB_len]
  by_cases e : i = j
  · subst e
    rw [if_pos rfl, if_pos h, fillB, List.getElem?_map, List.getElem?_range h]
    simp
  · rw [if_neg e, fillB, fillB, List.getElem?_map, List.getElem?_map]
    by_cases hj : j < 512
    · rw [List.getElem?_range hj]
      simp only [Option.map_some]
      congr 1
      by_cases hji : j < i
      · rw [if_pos hji, if_pos (by omega)]
      · rw [if_neg hji, if_neg (by omega)]
    · rw [List.getElem?_eq_none (by rw [List.length_range]; omega)]; rfl
theorem fillB_zero (b : List UInt8) : bv (fillB b 0) = List.replicate 512 (byteV 0) := by
  refine List.eq_replicate_iff.2 ⟨by rw [bv_length, fillB_len], fun v hv => ?_⟩
  obtain ⟨x, hx, rfl⟩ := List.mem_map.1 hv
  obtain ⟨j, _, rfl⟩ := List.mem_map.1 hx
  simp
set_option maxRecDepth 20000 in
set_option maxHeartbeats 1000000 in
theorem page38 (b : List UInt8) (p : Option Addr) (n cp : Nat) (w : World) (h : SlAt w p n 1 (bv b)) :
    Calls Tryz.prog 56 [.slice p n cp].toArray w (Ret fun v w' => v = .agg (bv (pageB b)).toArray ∧ Below w.heap.size w w') := by
  have hB := Below.refl w.heap.size w
  have hbl : b.length = n := by simpa [bv_length] using h.len
  have hfl := fillB_len b
  have hpl := pageB_len b
  refine calls_W (fn := Tryz.f56) (rs := [.cell 2 109]) (n := 23) Tryz.func56 rfl rfl Tryz.ntmps56 (by kernel_rfl) rfl ?_
  refine W_seq ?_
  refine W_region ?_
  refine WR_mk rfl (mk_alloc (List.replicate 512 (byteV 0)) (by kernel_rfl) (fun g2 w2 hg2 hr2 hb2 => ?_))
  have ge_hB_g2 := Nat.le_trans hB.size hg2
  replace hB := hB.acc hb2
  refine WR_nil ?_
  refine thenN ?_
  refine W_seq ?_
  refine W_seq ?_
  refine W_region ?_
  refine WR_val rfl (rn_assign) ?_
  refine WR_nil ?_
  refine thenN ?_
  refine W_block ?_
  rw [← fillB_zero b] at hr2
  refine W_loop (α := Nat) 0 (fun k => [(3, .int .i64 (k : Nat)), (0, .slice p n cp), (2, .pointer (some ⟨g2, 0, none⟩))])
    (fun k w' => k ≤ 512 ∧ (n = 0 → k = 0) ∧ row w' g2 (bv (fillB b k)) 109 ∧ Below w.heap.size w w') (fun k => 512 - k) ⟨rfl, rfl, rfl, rfl⟩ ⟨by omega, fun _ => rfl, hr2, hB⟩ ?_
  clear hB hr2
  rintro i f wr ⟨hi, hz, hr2, hB⟩
  refine W_seq ?_
  refine W_seq ?_
  refine W_region ?_
  refine WR_val rfl (rn_move) ?_
  refine WR_val rfl (rn_lss rfl rfl) ?_
  refine WR_val rfl (rn_move) ?_
  refine WR_part 6 rfl (fun hlt => ?_) (fun hlt => ?_)
  ·
    refine WR_yes rfl ?_
    refine WR_val rfl (rn_move) ?_
    refine WR_yes rfl ?_
    refine WR_val rfl (rn_lenSl (e := 5) (sz := 1) (by kernel_rfl) rfl rfl) ?_
    refine WR_yes rfl ?_
    refine WR_val rfl (rn_gtr rfl rfl) ?_
    refine WR_val rfl (rn_pick_t rfl) ?_
    refine WR_nil ?_
    refine thenN ?_
    refine W_ifp rfl (fun hpos => ?_) (fun hpos => ?_)
    ·
      refine W_skip ?_
      refine thenN ?_
      refine W_seq ?_
      refine W_block ?_
      refine W_region ?_
      refine WR_val rfl (rn_move) ?_
      refine WR_val rfl (rn_move) ?_
      refine WR_val rfl (rn_move) ?_
      refine WR_val rfl (rn_move) ?_
      refine WR_val rfl (rn_lenSl (e := 5) (sz := 1) (by kernel_rfl) rfl rfl) ?_
      refine WR_val rfl (rn_rem0 rfl rfl (by omega) (by omega)) ?_
      have hmod : i % n < n := Nat.mod_lt _ (by omega)
      have hv := bv_getD b (i % n) (by omega)
      have hfi := hfl i
      have hobt := h.some (by omega)
      obtain ⟨gp, op, rfl, _⟩ := hobt
      refine WR_val rfl (rn_indexSl1 (e := 5) (by kernel_rfl) rfl rfl (i % n) (by first | rfl | omega) (by omega)) ?_
      refine WR_val rfl (rn_load rfl (Ld.sl1 (h.below hB (Nat.le_refl _)) (by kernel_rfl) hv)) ?_
      refine WR_val rfl (rn_indexAr1 (e := 5) (m := 512) (by kernel_rfl) rfl rfl (i) (by omega) (by omega)) ?_
      refine WR_sk rfl (sk_store1 rfl rfl rfl rfl hr2 (by kernel_rfl) (by first | (simp only [List.length_replicate]; omega) | (simp only [iv_length]; omega) | (simp only [bv_length, List.length_set]; omega) | simp) (fun w901 hr2 ho901 => ?_))
      replace hB := ho901.below hB ge_hB_g2
      refine WR_nil ?_
      refine blockN ?_
      refine thenN ?_
      refine W_region ?_
      refine WR_val rfl (rn_move) ?_
      refine WR_val rfl (rn_add rfl rfl (Coup.w64 (by omega))) ?_
      refine WR_val rfl (rn_assign) ?_
      refine WR_nil ?_
      have hfs := fillB_set b (i := i) (by omega)
      rw [hbl] at hfs
      replace hfs : (bv (fillB b i)).set (0 + i) (byteV (b.getD (i % n) 0)) = bv (fillB b (i + 1)) := by rw [Nat.zero_add]; exact hfs
      have hr3 : row w901 g2 (bv (fillB b (i + 1))) 109 := by rw [← hfs]; exact hr2
      refine loopN ⟨i + 1, by omega, ⟨by go_num, rfl, rfl, rfl⟩, by omega, fun h => by omega, hr3, hB⟩
    ·
      have hpg : fillB b i = pageB b := by rw [pageB, if_neg (by omega), hz (by omega)]
      rw [hpg] at hr2
      refine W_exit ?_
      refine thenX ?_
      refine loopX ?_
      refine blockX ?_
      refine thenN ?_
      refine W_seq ?_
      refine W_region ?_
      refine WR_val rfl (rn_load rfl (Ld.rowA (k := 512) hr2 (by kernel_rfl) (by kernel_rfl) (by rw [bv_length, hpl]))) ?_
      refine WR_sk rfl (sk_storeA 512 (bv (pageB b)) rfl rfl hr2 (by kernel_rfl) (by first | assumption | (simp; done) | (simp [bv_length, *]; done)) (by first | assumption | (simp; done) | (simp [bv_length, *]; done) | rfl) (by first | exact bv_one _ | assumption | (simp [Value.oneCell']; done)) (fun w902 hr2 ho902 => ?_))
      replace hB := ho902.below hB ge_hB_g2
      refine WR_nil ?_
      refine thenN ?_
      refine W_ret ?_
      refine ret_ret [_] ⟨⟨_, rfl, Ld.rowA (k := 512) hr2 (by kernel_rfl) (by kernel_rfl) (by first | (simp; done) | (simp [bv_length, *]; done) | assumption)⟩, trivial⟩ ?_
      exact ⟨rfl, hB⟩
  ·
    have hi2 : i = 512 := by omega
    subst hi2
    have hpg : fillB b 512 = pageB b := by rw [pageB, if_pos (by by_cases h0 : n = 0 <;> omega)]
    rw [hpg] at hr2
    refine WR_no rfl rfl ?_
    refine WR_no rfl rfl ?_
    refine WR_no rfl rfl ?_
    refine WR_val rfl (rn_pick_f rfl) ?_
    refine WR_nil ?_
    refine thenN ?_
    refine W_f rfl ?_
    refine W_exit ?_
    refine thenX ?_
    refine loopX ?_
    refine blockX ?_
    refine thenN ?_
    refine W_seq ?_
    refine W_region ?_
    refine WR_val rfl (rn_load rfl (Ld.rowA (k := 512) hr2 (by kernel_rfl) (by kernel_rfl) (by rw [bv_length, hpl]))) ?_
    refine WR_sk rfl (sk_storeA 512 (bv (pageB b)) rfl rfl hr2 (by kernel_rfl) (by first | assumption | (simp; done) | (simp [bv_length, *]; done)) (by first | assumption | (simp; done) | (simp [bv_length, *]; done) | rfl) (by first | exact bv_one _ | assumption | (simp [Value.oneCell']; done)) (fun w903 hr2 ho903 => ?_))
    replace hB := ho903.below hB ge_hB_g2
    refine WR_nil ?_
    refine thenN ?_
    refine W_ret ?_
    refine ret_ret [_] ⟨⟨_, rfl, Ld.rowA (k := 512) hr2 (by kernel_rfl) (by kernel_rfl) (by first | (simp; done) | (simp [bv_length, *]; done) | assumption)⟩, trivial⟩ ?_
    exact ⟨rfl, hB⟩
end Go.Proofs.YtkkgahgpemepeaaGreat
namespace Go.Proofs.YtkkgahgpemepeaaGreat
open Go Go.RowKit Coup
structure LeafT where
  num : Int
  b : List UInt8
def recOf (L : List LeafT) : Rec := L.map fun x => ⟨x.num, pageB x.b⟩
theorem recOf_ok (L : List LeafT) : chsOk (recOf L) := fun c hc => by
  obtain ⟨x, _, rfl⟩ := List.mem_map.1 hc
  exact pageB_len _
theorem recOf_len (L : List LeafT) : (recOf L).length = L.length := List.length_map ..
structure LvAt (w : World) (p : Option Addr) (n : Nat) (L : List LeafT) : Prop where
  len : L.length = n
  ex : ∃ vs, SlAt w p n 2 vs ∧ ∀ (i : Nat) (x : LeafT), L[i]? = some x → vs[i * 2]? = some (.int .i64 x.num) ∧ ∃ q c, vs[i * 2 + 1]? = some (.slice q x.b.length c) ∧ SlAt w q x.b.length 1 (bv x.b)
set_option maxRecDepth 20000 in
set_option maxHeartbeats 1000000 in
theorem record8 (L : List LeafT) (p : Option Addr) (n cp : Nat) (w : World) (h : LvAt w p n L) (hn2 : n ≤ 1000000) :
    Calls Tryz.prog 28 [.slice p n cp].toArray w (Ret fun v w' => ownsAt w' w.heap.size 112 513 v n (chsV (recOf L)) ∧ Below w.heap.size w w') := by
  have hB := Below.refl w.heap.size w
  have hml : maxLen = 9223372036854775807 := by decide
  obtain ⟨hn, vs, hs, hat⟩ := h
  refine calls_W (fn := Tryz.f28) (rs := [.tmp 2]) (n := 27) Tryz.func28 rfl rfl Tryz.ntmps28 (by kernel_rfl) rfl ?_
  refine W_seq ?_
  refine W_region ?_
  refine WR_val rfl (rn_assign) ?_
  refine WR_nil ?_
  refine thenN ?_
  refine W_seq ?_
  refine W_region ?_
  refine WR_val rfl (rn_assign) ?_
  refine WR_nil ?_
  refine thenN ?_
  refine W_seq ?_
  refine W_seq ?_
  refine W_region ?_
  refine WR_val rfl (rn_assign) ?_
  refine WR_nil ?_
  refine thenN ?_
  refine W_block ?_
  refine W_loop (α := Nat × Value) (0, .slice none 0 0) (fun k => [(4, .int .i64 (k.1 : Nat)), (3, k.2), (0, .slice p n cp)])
    (fun k w' => k.1 ≤ n ∧ ownsAt w' w.heap.size 112 513 k.2 k.1 (chsV (recOf (L.take k.1))) ∧ Below w.heap.size w w') (fun k => n - k.1) ⟨rfl, rfl, rfl, rfl⟩ ⟨Nat.zero_le _, ownsAt_nil _ _ _ _, hB⟩ ?_
  clear hB
  rintro ⟨i, u⟩ f wr ⟨hi, hu, hB⟩
  dsimp only at *
  refine W_seq ?_
  refine W_seq ?_
  refine W_region ?_
  refine WR_val rfl (rn_move) ?_
  refine WR_val rfl (rn_move) ?_
  refine WR_val rfl (rn_lenSl (e := 69) (sz := 2) (by kernel_rfl) rfl rfl) ?_
  refine WR_val rfl (rn_lss rfl rfl) ?_
  refine WR_nil ?_
  refine thenN ?_
  refine W_ifp rfl (fun hlt => ?_) (fun hlt => ?_)
  ·
    refine W_skip ?_
    refine thenN ?_
    refine W_seq ?_
    refine W_block ?_
    have hex : ∃ c, L[i]? = some c := ⟨_, List.getElem?_eq_getElem (by omega)⟩
    obtain ⟨x, hx⟩ := hex
    have hobt := hs.some (by omega)
    obtain ⟨g, o, rfl, _⟩ := hobt
    have hobt := hat i x hx
    obtain ⟨hv1, q, qc, hv2, hq⟩ := hobt
    have hpl := pageB_len x.b
    have htk : recOf (L.take (i + 1)) = recOf (L.take i) ++ [⟨x.num, pageB x.b⟩] := by rw [List.take_add_one, hx]; simp [recOf]
    have hpg := fun w' (hb : Below w.heap.size w w') => page38 x.b q x.b.length qc w' (hq.below hb (Nat.le_refl _))
    have hob : ∃ P, pageB x.b = P := ⟨_, rfl⟩
    obtain ⟨P, hP⟩ := hob
    rw [hP] at hpl htk
    simp only [hP] at hpg
    have hchl := chV_len (c := ⟨x.num, P⟩) hpl
    have hch1 := chV_one ⟨x.num, P⟩
    refine W_draw' (u.ownBlock.toList) (by kernel_rfl) ?_
    intro w901 hb901 hS901
    replace hu := hu.new hb901
    replace hB := hB.acc hb901
    have hu_d901 := hu
    have hB_d901 := hB
    refine WA_take 0 (by kernel_rfl) rfl (fun _ _ => rn_move) ?_
    refine WA_take 1 (by kernel_rfl) rfl (fun _ _ => rn_move) ?_
    refine WA_take 2 (by kernel_rfl) rfl (fun _ _ => rn_move) ?_
    refine WA_take 3 (by kernel_rfl) rfl (fun _ _ => rn_indexSl (e := 69) (sz := 2) (by kernel_rfl) rfl rfl (i) (by omega) (by omega)) ?_
    refine WA_take 4 (by kernel_rfl) rfl (fun _ _ => rn_fieldAddr (off := 0) (by kernel_rfl) rfl) ?_
    refine WA_take 5 (by kernel_rfl) rfl (fun w' hS' => rn_load rfl (Ld.one (by kernel_rfl) ((hs.below (hB_d901.kpd hS' (by first | (simp; done) | (simp; omega) | (simp [*]; done) | exact notLL (Or.inl (by omega)) | exact notLL (Or.inr (by simp)) | exact fun g hm => Nat.le_trans (by omega) (inLL hm).1 | (intro b o e; cases e; exact notLL (Or.inl (by omega))) | (intro b hm; have := (hu.lt b (Option.mem_toList.1 hm)).1; omega) | (intro b o e; cases e; intro hm; have := (hu.lt _ (Option.mem_toList.1 hm)).1; omega))) (Nat.le_refl _)).cell (i * 2) hv1))) ?_
    refine WA_take 6 (by kernel_rfl) rfl (fun _ _ => rn_move) ?_
    refine WA_take 7 (by kernel_rfl) rfl (fun _ _ => rn_move) ?_
    refine WA_take 8 (by kernel_rfl) rfl (fun _ _ => rn_indexSl (e := 69) (sz := 2) (by kernel_rfl) rfl rfl (i) (by omega) (by omega)) ?_
    refine WA_take 9 (by kernel_rfl) rfl (fun _ _ => rn_fieldAddr (off := 1) (by kernel_rfl) rfl) ?_
    refine WA_take 10 (by kernel_rfl) rfl (fun w' hS' => rn_load rfl (Ld.one (by kernel_rfl) ((hs.below (hB_d901.kpd hS' (by first | (simp; done) | (simp; omega) | (simp [*]; done) | exact notLL (Or.inl (by omega)) | exact notLL (Or.inr (by simp)) | exact fun g hm => Nat.le_trans (by omega) (inLL hm).1 | (intro b o e; cases e; exact notLL (Or.inl (by omega))) | (intro b hm; have := (hu.lt b (Option.mem_toList.1 hm)).1; omega) | (intro b o e; cases e; intro hm; have := (hu.lt _ (Option.mem_toList.1 hm)).1; omega))) (Nat.le_refl _)).cell (i * 2 + 1) hv2))) ?_
    refine WA_one 11 (by kernel_rfl) ?_
    refine WO_ent rfl rfl (rn_call (by kernel_rfl) rfl) (hpg _ hB) ?_
    rintro _ w22 ⟨rfl, hb22⟩
    have hS902 := hS901.add0 hb22
    refine ⟨hS902, ?_⟩
    replace hu := hu.new hb22
    replace hB := hB.acc hb22
    refine WA_take 12 (by kernel_rfl) rfl (fun _ _ => rn_buildCh hpl rfl rfl rfl) ?_
    refine WA_one 13 (by kernel_rfl) ?_
    refine WO_mk rfl rfl (mk_one (e := 112) (.agg (chV ⟨x.num, P⟩).toArray) (chV ⟨x.num, P⟩) (([Value.int .i64 0]) ++ (List.replicate 512 (Value.int .u8 0))) 513 (by kernel_rfl) (by kernel_rfl) rfl rfl (by first | rfl | (simp; done) | (simp [bv_length, *]; done)) ⟨by decide, by decide⟩ (fun g24 w24 hg24 hr24 hb24 => ?_))
    have hS903 := hS902.add0 hb24
    refine ⟨hS903, ?_⟩
    have ge_hS902_g24 := Nat.le_trans hS902.size hg24
    have ge_hB_g24 := Nat.le_trans hB.size hg24
    replace hu := hu.new hb24
    replace hB := hB.acc hb24
    refine WA_one 14 (by kernel_rfl) ?_
    have hs24 := hr24.slA (m := 1) (sz := 513) hchl (by omega)
    have sz_hB_25 := hB.size
    refine WO_mk rfl rfl (mk_append (e := 112) (sz := 513) (bytes := 520) (z := .agg (([Value.int .i64 0]) ++ (List.replicate 512 (Value.int .u8 0))).toArray) (by kernel_rfl) rfl (by kernel_rfl) rfl (by decide) rfl hu rfl hs24 hch1 (by unfold maxLen; omega) (by omega) (fun hm0 => by omega) (fun v25 w25 hv25 hgr25 hfr25 => ?_))
    have hS904 := hS903.ownS hu hgr25 (by first | (left; omega) | exact Or.inr (fun _ h => h) | exact Or.inr (fun _ h => List.mem_cons_of_mem _ h))
    refine ⟨hS904, ?_⟩
    replace hB := hB.own hu hgr25 (by omega)
    refine WA_take 15 (by kernel_rfl) rfl (fun _ _ => rn_assign) ?_
    refine WA_done (by kernel_rfl) ?_
    refine blockN ?_
    refine thenN ?_
    refine W_region ?_
    refine WR_val rfl (rn_move) ?_
    refine WR_val rfl (rn_add rfl rfl (Coup.w64 (by omega))) ?_
    refine WR_val rfl (rn_assign) ?_
    refine WR_nil ?_
    rw [← chsV_snoc, ← htk] at hv25
    refine loopN ⟨(i + 1, v25), by show n - (i + 1) < n - i; omega, ⟨by go_num, rfl, rfl, rfl⟩, by show i + 1 ≤ n; omega, hv25, hB⟩
  ·
    have hin : i = n := by omega
    subst hin
    rw [List.take_of_length_le (by omega)] at hu
    refine W_exit ?_
    refine thenX ?_
    refine loopX ?_
    refine blockX ?_
    refine thenN ?_
    refine W_seq ?_
    refine W_region ?_
    refine WR_val rfl (rn_move) ?_
    refine WR_val rfl (rn_assign) ?_
    refine WR_nil ?_
    refine thenN ?_
    refine W_ret ?_
    refine ret_ret [_] ⟨rfl, trivial⟩ ?_
    exact ⟨hu, hB⟩
end Go.Proofs.YtkkgahgpemepeaaGreat
namespace Go.Proofs.YtkkgahgpemepeaaGreat
open Go Go.RowKit Coup
theorem get44w (p : Option Addr) (n c : Nat) (l : List UInt8) (w : World) (h : SlAt w p n 1 (bv l)) (hn : n ≤ 8) : Calls Tryz.prog 75 [.slice p n c].toArray w (Ret fun v w' => v = .int .u64 (numB l) ∧ w = w') := calls_ret (get36 p n c l w h hn)
theorem sp_ch (a : Int) (pg : List UInt8) (h : pg.length = 512) : splice (.int .i64 a :: List.replicate 512 (Value.int .u8 0)) 1 (bv pg) = chV ⟨a, pg⟩ := by
  have h1 : (Value.int .i64 a :: List.replicate 512 (Value.int .u8 0)).drop (1 + (bv pg).length) = [] := List.drop_of_length_le (by rw [bv_length, h, List.length_cons, List.length_replicate]; omega)
  rw [splice, h1, List.append_nil]; rfl
theorem ofR_eq (b : List UInt8) (m : Nat) (hl : b.length = 516 * m) : ofR b = if mayR (ofL b m) then some (ofL b m) else none := by
  have h1 : b.length / 516 = m := by omega
  have h2 : b.length % 516 = 0 := by omega
  rw [ofR, ofOk, h1, h2, mayR, ofL_len]
  rfl
set_option maxRecDepth 20000 in
set_option maxHeartbeats 2000000 in
theorem rof16 (b : List UInt8) (p : Option Addr) (n cp : Nat) (w : World) (h : SlAt w p n 1 (bv b)) (hcp : n ≤ cp) (hn2 : n ≤ 1000000) :
    Calls Tryz.prog 47 [.slice p n cp].toArray w (Ret fun v w' => ((∃ r q c, ofR b = some r ∧ v = .tuple #[.slice q r.length c, .bool true] ∧ SlAt w' q r.length 513 (chsV r) ∧ ∀ b o, q = some ⟨b, o, none⟩ → w.heap.size ≤ b) ∨ (ofR b = none ∧ v = .tuple #[.slice none 0 0, .bool false])) ∧ Below w.heap.size w w') := by
  have hB := Below.refl w.heap.size w
  have hml : maxLen = 9223372036854775807 := by decide
  have hl : b.length = n := by simpa [bv_length] using h.len
  refine calls_W (fn := Tryz.f47) (rs := [.tmp 2, .tmp 3]) (n := 42) Tryz.func47 rfl rfl Tryz.ntmps47 (by kernel_rfl) rfl ?_
  refine W_seq ?_
  refine W_region ?_
  refine WR_val rfl (rn_assign) ?_
  refine WR_val rfl (rn_assign) ?_
  refine WR_nil ?_
  refine thenN ?_
  refine W_seq ?_
  refine W_seq ?_
  refine W_region ?_
  refine WR_val rfl (rn_move) ?_
  refine WR_val rfl (rn_lenSl (e := 5) (sz := 1) (by kernel_rfl) rfl rfl) ?_
  refine WR_val rfl (rn_rem0 rfl rfl (by omega) (by omega)) ?_
  refine WR_val rfl (rn_neq rfl rfl) ?_
  refine WR_nil ?_
  refine thenN ?_
  refine W_ifp rfl (fun hrem => ?_) (fun hrem => ?_)
  ·
    refine W_seq ?_
    refine W_region ?_
    refine WR_val rfl (rn_assign) ?_
    refine WR_val rfl (rn_assign) ?_
    refine WR_nil ?_
    refine thenN ?_
    refine W_ret ?_
    refine thenR ?_
    refine ret_ret [_, _] ⟨rfl, rfl, trivial⟩ ?_
    have hno : decide (n % 516 = 0) = false := decide_eq_false (by omega)
    exact ⟨.inr ⟨by rw [ofR, ofOk, hl, hno]; rfl, rfl⟩, hB⟩
  ·
    have hob : ∃ m, n = 516 * m := ⟨n / 516, by omega⟩
    obtain ⟨m, hm⟩ := hob
    have hofr := ofR_eq b m (by omega)
    refine W_skip ?_
    refine thenN ?_
    refine W_seq ?_
    refine W_region ?_
    refine WR_val rfl (rn_assign) ?_
    refine WR_nil ?_
    refine thenN ?_
    refine W_seq ?_
    refine W_seq ?_
    refine W_region ?_
    refine WR_val rfl (rn_assign) ?_
    refine WR_nil ?_
    refine thenN ?_
    refine W_block ?_
    refine W_loop (α := Nat × Value) (0, .slice none 0 0) (fun k => [(5, .int .i64 ((516 * k.1 : Nat) : Int)), (4, k.2), (0, .slice p n cp)])
      (fun k w' => k.1 ≤ m ∧ ownsAt w' w.heap.size 112 513 k.2 k.1 (chsV (ofL b k.1)) ∧ Below w.heap.size w w') (fun k => m - k.1)
      ⟨rfl, rfl, rfl, rfl⟩ ⟨Nat.zero_le _, ownsAt_nil _ _ _ _, hB⟩ ?_
    clear hB
    rintro ⟨k, u⟩ f wr ⟨hk, hu, hB⟩
    dsimp only at *
    have hBr := Below.refl wr.heap.size wr
    refine W_seq ?_
    refine W_seq ?_
    refine W_region ?_
    refine WR_val rfl (rn_move) ?_
    refine WR_val rfl (rn_move) ?_
    refine WR_val rfl (rn_lenSl (e := 5) (sz := 1) (by kernel_rfl) rfl rfl) ?_
    refine WR_val rfl (rn_lss rfl rfl) ?_
    refine WR_nil ?_
    refine thenN ?_
    refine W_ifp rfl (fun hlt => ?_) (fun hlt => ?_)
    ·
      refine W_skip ?_
      refine thenN ?_
      refine W_seq ?_
      refine W_block ?_
      refine W_seq ?_
      have hs := h.below hB (Nat.le_refl _)
      have hobt := h.some (by omega)
      obtain ⟨gp, op, rfl, hgp⟩ := hobt
      have hs4 := hs.subB (516 * k) 4 (by omega)
      have hs5 := fun w' (hb : Below w.heap.size w w') => (h.below hb (Nat.le_refl _)).subB (516 * k + 4) 512 (by omega)
      have hcp2 := chOf_page (b := b) (i := k) (by omega)
      have hobt : ∃ x, numB ((b.drop (516 * k)).take 4) = x := ⟨_, rfl⟩
      obtain ⟨x, hx⟩ := hobt
      have hx4 : x < 4294967296 := by rw [← hx]; exact numB_lt_of _ 4 (by simp; omega)
      have hnu := fun c => get44w (some ⟨gp, op + 516 * k, none⟩) 4 c _ wr hs4 (by omega)
      simp only [hx] at hnu
      refine W_region ?_
      refine WR_val rfl (rn_move) ?_
      refine WR_val rfl (rn_move) ?_
      refine WR_val rfl (rn_move) ?_
      refine WR_val rfl (rn_add rfl rfl (Coup.w64 (by omega))) ?_
      refine WR_val rfl (rn_sliceSl1' (e := 5) (516 * k) (516 * k + 4) (_) (4) (by kernel_rfl) rfl ⟨_, _, rfl, by omega⟩ ⟨_, _, rfl, by omega⟩ rfl (by simp) (by omega) (by omega) (by omega) (by omega) (by omega)) ?_
      refine WR_ent rfl (rn_call (by kernel_rfl) rfl) (hnu _) ?_
      rintro _ _ ⟨rfl, rfl⟩
      refine WR_val rfl (rn_conv (k := .i64) (by kernel_rfl) (by kernel_rfl) rfl (Coup.w64 (by omega))) ?_
      refine WR_val rfl (rn_built1 (.int .i64 (x : Int)) (.int .i64 (x : Int) :: List.replicate 512 (Value.int .u8 0)) rfl (by kernel_rfl)) ?_
      refine WR_mk rfl (mk_alloc (([Value.int .i64 0]) ++ (List.replicate 512 (Value.int .u8 0))) (by kernel_rfl) (fun g6 w6 hg6 hr6 hb6 => ?_))
      have ge_hB_g6 := Nat.le_trans hB.size hg6
      have ge_hBr_g6 := Nat.le_trans hBr.size hg6
      replace hB := hB.acc hb6
      replace hBr := hBr.acc hb6
      refine WR_sk rfl (sk_storeA 513 (.int .i64 (x : Int) :: List.replicate 512 (Value.int .u8 0)) rfl rfl hr6 (by kernel_rfl) (by first | assumption | (simp; done) | (simp [bv_length, *]; done)) (by first | assumption | (simp; done) | (simp [bv_length, *]; done) | rfl) (by first | exact bv_one _ | assumption | (simp [Value.oneCell']; done)) (fun w901 hr6 ho901 => ?_))
      replace hB := ho901.below hB ge_hB_g6
      replace hBr := ho901.below hBr ge_hBr_g6
      refine WR_nil ?_
      refine thenN ?_
      refine W_seq ?_
      refine W_draw' [g6] (by kernel_rfl) ?_
      intro w902 hb902 hS902
      replace hr6 := hr6.new hb902
      replace hB := hB.acc hb902
      replace hBr := hBr.acc hb902
      have hr6_d902 := hr6
      have hB_d902 := hB
      have hBr_d902 := hBr
      refine WA_take 0 (by kernel_rfl) rfl (fun _ _ => rn_fieldAddr (off := 1) (by kernel_rfl) rfl) ?_
      refine WA_take 1 (by kernel_rfl) rfl (fun _ _ => rn_sliceAr1' (e := 5) (n := 512) (0) (512) (512) (512) (by kernel_rfl) rfl rfl rfl rfl (by simp) (by omega) (by omega) (by omega) (by omega) (by omega)) ?_
      refine WA_take 2 (by kernel_rfl) rfl (fun _ _ => rn_move) ?_
      refine WA_take 3 (by kernel_rfl) rfl (fun _ _ => rn_move) ?_
      refine WA_take 4 (by kernel_rfl) rfl (fun _ _ => rn_add rfl rfl (Coup.w64 (by omega))) ?_
      refine WA_take 5 (by kernel_rfl) rfl (fun _ _ => rn_move) ?_
      refine WA_take 6 (by kernel_rfl) rfl (fun _ _ => rn_add rfl rfl (Coup.w64 (by omega))) ?_
      refine WA_take 7 (by kernel_rfl) rfl (fun _ _ => rn_sliceSl1' (e := 5) (516 * k + 4) (516 * k + 516) (_) (512) (by kernel_rfl) rfl ⟨_, _, rfl, by omega⟩ ⟨_, _, rfl, by omega⟩ rfl (by simp) (by omega) (by omega) (by omega) (by omega) (by omega)) ?_
      refine WA_one 8 (by kernel_rfl) ?_
      refine WO_mk rfl rfl (mk_copy (e := 5) (by kernel_rfl) (by kernel_rfl) rfl rfl g6 (1) hr6 (bv (chOf b k).page) (by rw [bv_length, hcp2]; simp) (fun _ => ⟨rfl, _, rfl, fun j v hv => by rw [Addr.add_lit]; exact (hs5 _ hB).cell j hv⟩) (by rw [bv_length, hcp2]; simp) (bv_one _) (fun w33 hr6 ho33 => ?_))
      have hS903 := hS902.add1 ho33 (by first | (left; omega) | (right; simp; done) | (right; simp; omega))
      refine ⟨hS903, ?_⟩
      replace hB := ho33.below hB ge_hB_g6
      replace hBr := ho33.below hBr ge_hBr_g6
      refine WA_done (by kernel_rfl) ?_
      refine thenN ?_
      have hsp : splice (.int .i64 (x : Int) :: List.replicate 512 (Value.int .u8 0)) 1 (bv (chOf b k).page) = chV (chOf b k) := (sp_ch (x : Int) _ hcp2).trans (by rw [← hx]; rfl)
      rw [hsp] at hr6
      have hofs := ofL_snoc b k
      have hob : ∃ C, chOf b k = C := ⟨_, rfl⟩
      obtain ⟨C, hC⟩ := hob
      rw [hC] at hofs hcp2 hr6
      have hchl := chV_len hcp2
      have hch1 := chV_one C
      refine W_region ?_
      refine WR_val rfl (rn_move) ?_
      refine WR_val rfl (rn_load rfl (Ld.rowA (k := 513) hr6 (by kernel_rfl) (by kernel_rfl) hchl)) ?_
      refine WR_mk rfl (mk_one (e := 112) (.agg (chV C).toArray) (chV C) (([Value.int .i64 0]) ++ (List.replicate 512 (Value.int .u8 0))) 513 (by kernel_rfl) (by kernel_rfl) rfl rfl (by first | rfl | (simp; done) | (simp [bv_length, *]; done)) ⟨by decide, by decide⟩ (fun g36 w36 hg36 hr36 hb36 => ?_))
      have ge_hB_g36 := Nat.le_trans hB.size hg36
      have ge_hBr_g36 := Nat.le_trans hBr.size hg36
      have lt_g6_g36 : g6 < g36 := Nat.lt_of_lt_of_le hr6.lt hg36
      replace hr6 := hr6.new hb36
      replace hB := hB.acc hb36
      replace hBr := hBr.acc hb36
      have hs36 := hr36.slA (m := 1) (sz := 513) hchl (by omega)
      replace hu := hu.new hBr
      have hbz := hBr.size
      have hbz2 := hB.size
      have sz_hB_37 := hB.size
      refine WR_mk rfl (mk_append (e := 112) (sz := 513) (bytes := 520) (z := .agg (([Value.int .i64 0]) ++ (List.replicate 512 (Value.int .u8 0))).toArray) (by kernel_rfl) rfl (by kernel_rfl) rfl (by decide) rfl hu rfl hs36 hch1 (by unfold maxLen; omega) (by omega) (fun hm0 => by omega) (fun v37 w37 hv37 hgr37 hfr37 => ?_))
      replace hB := hB.own hu hgr37 (by omega)
      refine WR_val rfl (rn_assign) ?_
      refine WR_nil ?_
      refine blockN ?_
      refine thenN ?_
      refine W_region ?_
      refine WR_val rfl (rn_move) ?_
      refine WR_val rfl (rn_add rfl rfl (Coup.w64 (by omega))) ?_
      refine WR_val rfl (rn_assign) ?_
      refine WR_nil ?_
      rw [← chsV_snoc, ← hofs] at hv37
      refine loopN ⟨(k + 1, v37), by show m - (k + 1) < m - k; omega, ⟨by go_num, rfl, rfl, rfl⟩, by show k + 1 ≤ m; omega, hv37, hB⟩
    ·
      have hkm : k = m := by omega
      subst hkm
      have hfo := hu.form
      obtain ⟨pu, cu, rfl⟩ := hfo
      have hlen := ofL_len b k
      have hokl := ofL_ok (b := b) (n := k) (by omega)
      have hobt : ∃ mr, mayR (ofL b k) = mr := ⟨_, rfl⟩
      obtain ⟨mr, hmr⟩ := hobt
      have hmy := fun w' (h : SlAt w' pu k 513 (chsV (ofL b k))) => may12 (ofL b k) hokl pu k cu w' h hlen (by omega)
      rw [hmr] at hmy hofr
      refine W_exit ?_
      refine thenX ?_
      refine loopX ?_
      refine blockX ?_
      refine thenN ?_
      refine W_seq ?_
      refine W_seq ?_
      refine W_region ?_
      refine WR_val rfl (rn_move) ?_
      refine WR_ent rfl (rn_call (by kernel_rfl) rfl) (hmy _ hu.sl) ?_
      rintro _ _ ⟨rfl, rfl⟩
      refine WR_val rfl (rn_not rfl) ?_
      refine WR_nil ?_
      refine thenN ?_
      refine W_ifnb rfl (fun hd => ?_) (fun hd => ?_)
      ·
        refine W_seq ?_
        refine W_region ?_
        refine WR_val rfl (rn_assign) ?_
        refine WR_val rfl (rn_assign) ?_
        refine WR_nil ?_
        refine thenN ?_
        refine W_ret ?_
        refine thenR ?_
        refine ret_ret [_, _] ⟨rfl, rfl, trivial⟩ ?_
        rw [hd] at hofr
        exact ⟨.inr ⟨hofr, rfl⟩, hB⟩
      ·
        rw [hd] at hofr
        refine W_skip ?_
        refine thenN ?_
        refine W_seq ?_
        refine W_region ?_
        refine WR_val rfl (rn_move) ?_
        refine WR_val rfl (rn_assign) ?_
        refine WR_val rfl (rn_assign) ?_
        refine WR_nil ?_
        refine thenN ?_
        refine W_ret ?_
        refine ret_ret [_, _] ⟨rfl, rfl, trivial⟩ ?_
        exact ⟨.inl ⟨_, pu, cu, hofr, by rw [hlen]; rfl, by rw [hlen]; exact hu.sl, fun b' o' e => (hu.lt b' (by rw [e]; rfl)).1⟩, hB⟩
end Go.Proofs.YtkkgahgpemepeaaGreat
namespace Go.Proofs.YtkkgahgpemepeaaGreat
open Go Go.RowKit Coup
theorem readA {D : Dk} {k : Nat} (h : Alive D k) (a : Nat) (s : Sec) {j : Nat} (hj : j < D.V.length) : readD (writeA D (a : Int) s) j = if a = j then s else readD D j := by
  have h1 := (h.writeA (a : Int) s).2.2 j hj
  unfold readD
  rw [h1]
  by_cases e : a = j
  · rw [if_pos (by omega), if_pos e]; simp [lastS]
  · rw [if_neg (by omega), if_neg e]
theorem writesW_alive : ∀ (R : List Sec) {D : Dk} {k : Nat} (a : Nat), Alive D k → (writesW D a R).2 = true ∧ Alive (writesW D a R).1 (k + R.length) ∧
    ∀ j, j < D.V.length → readD (writesW D a R).1 j = if a ≤ j ∧ j < a + R.length then R.getD (j - a) zeroS else readD D j
  | [], D, k, a, h => ⟨rfl, h, fun j hj => by rw [if_neg (by rw [List.length_nil]; omega)]; rfl⟩
  | s :: R, D, k, a, h => by
    obtain ⟨h1, h2⟩ := step_alive h.left h.dead
    obtain ⟨e1, e2, _⟩ := h.writeA (a : Int) s
    obtain ⟨f1, f2, f3⟩ := writesW_alive R (a + 1) e1
    rw [writesW, if_pos h1]
    refine ⟨f1, by rw [List.length_cons, show k + (R.length + 1) = k + 1 + R.length by omega]; exact f2, fun j hj => ?_⟩
    rw [f3 j (by rw [e2]; exact hj), readA h a s hj, List.length_cons]
    by_cases c1 : a + 1 ≤ j ∧ j < a + 1 + R.length
    · rw [if_pos c1, if_pos (by omega), show j - a = (j - (a + 1)) + 1 by omega, List.getD_cons_succ]
    · rw [if_neg c1]
      by_cases c2 : a = j
      · rw [if_pos c2, if_pos (by omega), show j - a = 0 by omega, List.getD_cons_zero]
      · rw [if_neg c2, if_neg (by omega)]
theorem readF {D : Dk} (h : stepOk D = true) {j : Nat} (hj : j < D.V.length) : readD (flushD D) j = readD D j := by
  have h1 := flush_ver h hj
  show lastS (ver (flushD D) j) = _
  rw [h1]; rfl
theorem putW_alive (R : List Sec) {D : Dk} {k : Nat} (a : Nat) (h : Alive D k) : (putW D a R).2 = true ∧ Alive (putW D a R).1 1 ∧ (putW D a R).1.V.length = D.V.length ∧
    ∀ j, j < D.V.length → readD (putW D a R).1 j = if a ≤ j ∧ j < a + R.length then R.getD (j - a) zeroS else readD D j := by
  obtain ⟨h1, h2, h3⟩ := writesW_alive R a h
  have hl := writesW_len R D a
  obtain ⟨h4, h5⟩ := flush_alive h2
  rw [putW, if_pos h1]
  exact ⟨h4, h5, by rw [flush_len, hl], fun j hj => by rw [readF h4 (by rw [hl]; exact hj), h3 j hj]⟩
theorem save_alive {D : Dk} {k : Nat} (h : Alive D k) (c s : Nat) : saveE D c s = true ∧ Alive (saveD D c s) 1 ∧ (saveD D c s).V.length = D.V.length ∧
    ∀ j, j < D.V.length → readD (saveD D c s) j = if j = 0 then headB c s else readD D j := by
  obtain ⟨h1, _⟩ := step_alive h.left h.dead
  obtain ⟨e1, e2, _⟩ := h.writeA 0 (headB c s)
  obtain ⟨h4, h5⟩ := flush_alive e1
  unfold saveE saveD
  rw [h1, if_pos rfl, Bool.true_and]
  refine ⟨h4, h5, by rw [flush_len, e2], fun j hj => ?_⟩
  rw [readF h4 (by rw [e2]; exact hj)]
  have := readA h 0 (headB c s) hj
  rw [show ((0 : Nat) : Int) = 0 from rfl] at this
  rw [this]
  by_cases e : j = 0
  · rw [if_pos e, if_pos e.symm]
  · rw [if_neg e, if_neg fun h => e h.symm]
theorem zeros_read {D : Dk} {k : Nat} (h : Alive D k) : ∀ m j, j < D.V.length → readD (zerosD D m) j = if j < m then zeroS else readD D j
  | 0, j, hj => by rw [if_neg (by omega)]; rfl
  | m + 1, j, hj => by
    obtain ⟨h1, h2⟩ := zeros_alive h m
    rw [zerosD_succ, readA h1 m zeroS (by rw [h2]; exact hj), zeros_read h m j hj]
    by_cases e : m = j
    · rw [if_pos e, if_pos (by omega)]
    · rw [if_neg e]
      by_cases c : j < m
      · rw [if_pos c, if_pos (by omega)]
      · rw [if_neg c, if_neg (by omega)]
theorem fmt_alive {D : Dk} {k : Nat} (h : Alive D k) (n : Nat) : Alive (fmtD D n) 1 ∧ (fmtD D n).V.length = D.V.length ∧
    ∀ j, j < D.V.length → readD (fmtD D n) j = if j = 0 then headB 1 1 else if j < 1 + n then zeroS else readD D j := by
  obtain ⟨h1, h2⟩ := zeros_alive h (1 + n)
  obtain ⟨h4, h5⟩ := flush_alive h1
  have hfl : (flushD (zerosD D (1 + n))).V.length = D.V.length := by rw [flush_len, h2]
  obtain ⟨a1, a2, a3, a4⟩ := save_alive h5 1 1
  have hst := (step_alive h5.left h5.dead).1
  have he : saveD (flushD (zerosD D (1 + n))) 1 1 = fmtD D n := by
    unfold saveE at a1
    rw [hst, Bool.true_and] at a1
    rw [saveD, hst, if_pos rfl]; rfl
  rw [he] at a2 a3 a4
  refine ⟨a2, by rw [a3, hfl], fun j hj => ?_⟩
  rw [a4 j (by rw [hfl]; exact hj), readF h4 (by rw [h2]; exact hj), zeros_read h (1 + n) j hj]
end Go.Proofs.YtkkgahgpemepeaaGreat
namespace Go.Proofs.YtkkgahgpemepeaaGreat
open Go Go.RowKit Coup
theorem rowsL_row {c nn : Nat} {b X : List UInt8} {n f : Nat} (hm : mayT c nn = true) (hb : b.length ≤ 32768) (hn : needN b.length ≤ n) (hl : (rowB c nn b ++ X).length = n * 128) :
    rowsL (f + 1) (rowB c nn b ++ X) n = ⟨c, nn, b⟩ :: rowsL f X (n - needN b.length) := by
  obtain ⟨t1, t2, t3, t4⟩ := told_row c nn b X n hm hb hn hl
  have hrl := rowB_len c nn b
  rw [rowsL, if_pos t1, t2, t3, t4, List.drop_left' hrl]
theorem rowsL_zero {f n : Nat} {l : List UInt8} (h : joinIs l n = false) : rowsL f l n = [] := by
  cases f with
  | zero => rfl
  | succ f => rw [rowsL, h]; rfl
theorem rowsL_fuel : ∀ (f f' : Nat) (l : List UInt8) (n : Nat), n ≤ f → n ≤ f' → l.length = n * 128 → rowsL f l n = rowsL f' l n
  | 0, f', l, n, h1, h2, hl => by
    have hj : joinIs l n = false := by
      cases hj : joinIs l n with
      | false => rfl
      | true => have := (join_facts hj).1; omega
    rw [rowsL_zero hj, rowsL_zero hj]
  | f + 1, f', l, n, h1, h2, hl => by
    cases hj : joinIs l n with
    | false => rw [rowsL_zero hj, rowsL_zero hj]
    | true =>
      obtain ⟨h0, _, h3⟩ := join_facts hj
      obtain ⟨h4, h5⟩ := h3 hl
      obtain ⟨f', rfl⟩ : ∃ z, f' = z + 1 := ⟨f' - 1, by omega⟩
      rw [rowsL, rowsL, hj, if_pos rfl, if_pos rfl, rowsL_fuel f f' _ _ (by omega) (by omega) (by rw [List.length_drop, hl]; omega)]
theorem chOf_rec : ∀ (R : Rec) (hR : chsOk R) (hn : (R.all fun c => numOk c.num) = true) (X : List UInt8) (i : Nat) (c : Ch), R[i]? = some c → chOf (recB R ++ X) i = c
  | [], hR, hn, X, i, c, h => by simp at h
  | d :: R, hR, hn, X, i, c, h => by
    have hd := hR d (List.mem_cons_self ..)
    rw [List.all_cons, Bool.and_eq_true] at hn
    have hno := of_decide_eq_true hn.1
    have hb : recB (d :: R) ++ X = beB 4 d.num.toNat ++ (d.page ++ (recB R ++ X)) := by
      rw [recB, List.flatMap_cons]; simp [recB, List.append_assoc]
    cases i with
    | zero =>
      obtain rfl : d = c := by simpa using h
      rw [hb, chOf, Nat.mul_zero, List.drop_zero, List.take_left' (beB_length _ _), Nat.zero_add, List.drop_left' (beB_length _ _), List.take_left' hd]
      have hx : numB (beB 4 d.num.toNat) = d.num.toNat := by rw [numB_beB]; exact Nat.mod_eq_of_lt (by omega)
      rw [hx]
      cases d
      simp only [Ch.mk.injEq, and_true]
      dsimp only at hno
      omega
    | succ i =>
      have h' : R[i]? = some c := by simpa using h
      have ih := chOf_rec R (fun x hx => hR x (List.mem_cons_of_mem _ hx)) hn.2 X i c h'
      have hdl : (beB 4 d.num.toNat ++ d.page).length = 516 := by rw [List.length_append, beB_length, hd]
      have hb2 : recB (d :: R) ++ X = (beB 4 d.num.toNat ++ d.page) ++ (recB R ++ X) := by rw [hb, List.append_assoc]
      have e1 : ∀ j, (recB (d :: R) ++ X).drop (516 * (i + 1) + j) = (recB R ++ X).drop (516 * i + j) := fun j => by
        rw [hb2, show 516 * (i + 1) + j = 516 + (516 * i + j) by omega, ← List.drop_drop, List.drop_left' hdl]
      rw [← ih, chOf, chOf, e1 4, show 516 * (i + 1) = 516 * (i + 1) + 0 by omega, e1 0, Nat.add_zero]
theorem ofL_rec {R : Rec} (hR : chsOk R) (hn : (R.all fun c => numOk c.num) = true) : ofL (recB R) R.length = R := by
  refine List.ext_getElem? fun i => ?_
  by_cases hi : i < R.length
  · obtain ⟨c, hc⟩ : ∃ c, R[i]? = some c := ⟨_, List.getElem?_eq_getElem hi⟩
    have := chOf_rec R hR hn [] i c hc
    rw [List.append_nil] at this
    rw [ofL_at _ hi, hc, this]
  · rw [List.getElem?_eq_none (by rw [ofL_len]; omega), List.getElem?_eq_none (by omega)]
theorem ofR_rec {R : Rec} (hR : chsOk R) (hm : mayR R = true) : ofR (recB R) = some R := by
  have hl := recB_len hR
  have hn := (Bool.and_eq_true_iff.1 hm).2
  rw [ofR_eq (recB R) R.length hl, ofL_rec hR hn, if_pos hm]
end Go.Proofs.YtkkgahgpemepeaaGreat
namespace Go.Proofs.YtkkgahgpemepeaaGreat
open Go Go.RowKit Coup
def rowsT : Nat → List (Nat × Rec) → List UInt8
  | _, [] => []
  | k, x :: T => rowB x.1 k (recB x.2) ++ rowsT (k + 1) T
def atT (T : List (Nat × Rec)) : Nat := atS (T.map (·.2))
theorem atT_cons (x : Nat × Rec) (T : List (Nat × Rec)) : atT (x :: T) = needN (516 * x.2.length) + atT T := by simp [atT, atS]
def okT (s c : Nat) (T : List (Nat × Rec)) : Prop := ∀ x ∈ T, s ≤ x.1 ∧ x.1 ≤ c ∧ chsOk x.2 ∧ mayR x.2 = true
theorem rowsT_len : ∀ (k : Nat) {s c : Nat} {T : List (Nat × Rec)}, okT s c T → (rowsT k T).length = 128 * atT T
  | k, s, c, [], _ => rfl
  | k, s, c, x :: T, h => by
    obtain ⟨_, _, h3, _⟩ := h x (List.mem_cons_self ..)
    have ih := rowsT_len (k + 1) (T := T) fun y hy => h y (List.mem_cons_of_mem _ hy)
    rw [rowsT, List.length_append, rowB_len, recB_len h3, ih, atT_cons, Nat.mul_add]
theorem rec_short {R : Rec} (hR : chsOk R) (hm : mayR R = true) : (recB R).length ≤ 32768 := by
  have := of_decide_eq_true (Bool.and_eq_true_iff.1 hm).1
  rw [recB_len hR]; omega
theorem recs_rows : ∀ (T : List (Nat × Rec)) {s c k n f : Nat} {X : List UInt8}, 1 ≤ s → c ≤ 4611686018427387904 → okT s c T → k + T.length < 2147483648 → (rowsT k T ++ X).length = n * 128 → n ≤ f →
    recsL s c k (rowsL f (rowsT k T ++ X) n) = T.map (·.2) ++ recsL s c (k + T.length) (rowsL (n - atT T) X (n - atT T))
  | [], s, c, k, n, f, X, h1, h2, h3, h4, h5, h6 => by
    rw [rowsT, List.nil_append] at h5 ⊢
    have e : atT [] = 0 := rfl
    rw [e, Nat.sub_zero, rowsL_fuel f n X n h6 (Nat.le_refl _) h5]; rfl
  | x :: T, s, c, k, n, f, X, h1, h2, h3, h4, h5, h6 => by
    obtain ⟨a1, a2, a3, a4⟩ := h3 x (List.mem_cons_self ..)
    have hrest : okT s c T := fun y hy => h3 y (List.mem_cons_of_mem _ hy)
    rw [List.length_cons] at h4
    have hsh := rec_short a3 a4
    have hrl := rowB_len x.1 k (recB x.2)
    have hrb := recB_len a3
    have htl := rowsT_len (k + 1) hrest
    rw [rowsT, List.append_assoc] at h5 ⊢
    have hlen := h5
    rw [List.length_append, hrl] at hlen
    have hpos := (needW_pos (of_decide_eq_true (Bool.and_eq_true_iff.1 a4).1)).2
    rw [← hrb] at hpos
    have hmt : mayT ((x.1 : Nat) : Int) ((k : Nat) : Int) = true := by
      unfold mayT
      rw [decide_eq_true (by omega), decide_eq_true (by unfold maxCount; omega), decide_eq_true (by omega), decide_eq_true (by omega)]; rfl
    obtain ⟨f, rfl⟩ : ∃ z, f = z + 1 := ⟨f - 1, by omega⟩
    rw [rowsL_row hmt hsh (by omega) h5]
    have hok : okRow s c k ⟨x.1, k, recB x.2⟩ = some x.2 := by
      rw [okRow, if_pos ⟨rfl, a1, a2⟩]; exact ofR_rec a3 a4
    have hr := recs_rows T (s := s) (c := c) (k := k + 1) (n := n - needN (recB x.2).length) (f := f) (X := X) h1 h2 hrest (by omega) (by rw [Nat.sub_mul]; omega) (by omega)
    rw [recsL_some hok, hr, List.map_cons, List.cons_append, atT_cons, hrb, List.length_cons, show k + 1 + T.length = k + (T.length + 1) by omega, Nat.sub_sub]
end Go.Proofs.YtkkgahgpemepeaaGreat
namespace Go.Proofs.YtkkgahgpemepeaaGreat
open Go Go.RowKit Coup
def secL (D : Dk) (n : Nat) : List Sec := (List.range n).map fun i => readD D (1 + i)
theorem logB_eq (D : Dk) (n : Nat) : logB D n = (secL D n).flatten := rfl
theorem secL_len (D : Dk) (n : Nat) : (secL D n).length = n := by simp [secL]
theorem secL_get (D : Dk) {n i : Nat} (h : i < n) : (secL D n)[i]? = some (readD D (1 + i)) := by rw [secL, List.getElem?_map, List.getElem?_range h]; rfl
theorem secL_ok {D : Dk} (h : DkOk D) {n : Nat} (hn : 1 + n ≤ D.V.length) : secsOk (secL D n) := fun s hs => by
  obtain ⟨i, hi, rfl⟩ := List.mem_map.1 hs
  have := List.mem_range.1 hi
  exact readD_len h (by omega)
theorem flat_take : ∀ {L : List Sec} (_ : secsOk L) (k : Nat), (L.take k).flatten = L.flatten.take (128 * k) ∧ (L.drop k).flatten = L.flatten.drop (128 * k)
  | [], _, k => by simp
  | s :: L, h, 0 => by simp
  | s :: L, h, k + 1 => by
    have hs : s.length = 128 := h s (List.mem_cons_self ..)
    obtain ⟨h1, h2⟩ := flat_take (L := L) (fun x hx => h x (List.mem_cons_of_mem _ hx)) k
    rw [List.take_succ_cons, List.drop_succ_cons, List.flatten_cons, List.flatten_cons, h1, h2, show 128 * (k + 1) = s.length + 128 * k by omega]
    refine ⟨?_, ?_⟩
    · rw [List.take_append, List.take_of_length_le (l := s) (by omega), Nat.add_sub_cancel_left]
    · rw [List.drop_append, (List.drop_of_length_le (by omega) : s.drop (s.length + 128 * k) = []), Nat.add_sub_cancel_left, List.nil_append]
theorem secL_put {D D' : Dk} {n a : Nat} {R : List Sec} (hn : 1 + n ≤ D.V.length) (hfit : a + R.length ≤ n) (h : ∀ j, j < D.V.length → readD D' j = if 1 + a ≤ j ∧ j < 1 + a + R.length then R.getD (j - (1 + a)) zeroS else readD D j) :
    secL D' n = (secL D n).take a ++ (R ++ (secL D n).drop (a + R.length)) := by
  have hl := secL_len D n
  refine List.ext_getElem? fun i => ?_
  by_cases hi : i < n
  · rw [secL_get D' hi, h (1 + i) (by omega)]
    by_cases c1 : i < a
    · rw [if_neg (by omega), List.getElem?_append_left (by rw [List.length_take]; omega), List.getElem?_take, if_pos c1, secL_get D hi]
    · rw [List.getElem?_append_right (by rw [List.length_take]; omega), List.length_take, hl, Nat.min_eq_left (by omega)]
      by_cases c2 : i < a + R.length
      · rw [if_pos (by omega), List.getElem?_append_left (by omega), show 1 + i - (1 + a) = i - a by omega, List.getD_eq_getElem?_getD, List.getElem?_eq_getElem (by omega)]; rfl
      · rw [if_neg (by omega), List.getElem?_append_right (by omega), List.getElem?_drop, show a + R.length + (i - a - R.length) = i by omega, secL_get D hi]
  · rw [List.getElem?_eq_none (by rw [secL_len]; omega), List.getElem?_eq_none (by simp only [List.length_append, List.length_take, List.length_drop, hl]; omega)]
theorem logB_put {D D' : Dk} {n a : Nat} {R : List Sec} {B X : List UInt8} (hD : DkOk D) (hn : 1 + n ≤ D.V.length) (hfit : a + R.length ≤ n) (h : ∀ j, j < D.V.length → readD D' j = if 1 + a ≤ j ∧ j < 1 + a + R.length then R.getD (j - (1 + a)) zeroS else readD D j)
    (hB : logB D n = B ++ X) (hBl : B.length = 128 * a) : logB D' n = B ++ (R.flatten ++ X.drop (128 * R.length)) := by
  have hok := secL_ok hD hn
  rw [logB_eq, secL_put hn hfit h, List.flatten_append, List.flatten_append, (flat_take hok a).1, (flat_take hok (a + R.length)).2, ← logB_eq, hB, List.take_left' hBl, Nat.mul_add, ← hBl, List.drop_append, List.drop_of_length_le (by omega), Nat.add_sub_cancel_left, List.nil_append]
end Go.Proofs.YtkkgahgpemepeaaGreat
namespace Go.Proofs.YtkkgahgpemepeaaGreat
open Go Go.RowKit Coup
theorem join_count0 {l : List UInt8} {n : Nat} (h : hCount (halfAt l 0) = 0) : joinIs l n = false := by
  cases hj : joinIs l n with
  | false => rfl
  | true =>
    have := (may_bounds (join_facts hj).2.1).1
    omega
theorem zeros_take (a k : Nat) : (zerosB a).take k = zerosB (min k a) := by simp [zerosB]
theorem zeros_drop (a k : Nat) : (zerosB a).drop k = zerosB (a - k) := by simp [zerosB]
theorem numB_zeros : ∀ k, numB (zerosB k) = 0 := fun k => by
  induction k with
  | zero => rfl
  | succ k ih =>
    have h : zerosB (k + 1) = zerosB k ++ [0] := by simp [zerosB, List.replicate_succ']
    rw [h]
    simp only [numB] at ih ⊢
    rw [List.foldl_append, ih]; rfl
theorem join_zeros (a n : Nat) : joinIs (zerosB a) n = false := join_count0 (by rw [hCount, halfAt, zeros_drop, zeros_take, zeros_take, numB_zeros])
theorem recs_zeros (s c k f a n : Nat) : recsL s c k (rowsL f (zerosB a) n) = [] := by rw [rowsL_zero (join_zeros a n)]; rfl
theorem recs_then_zeros {T : List (Nat × Rec)} {s c n a : Nat} (h1 : 1 ≤ s) (h2 : c ≤ 4611686018427387904) (h3 : okT s c T) (h4 : T.length < 2147483648) (h5 : (rowsT 0 T ++ zerosB a).length = n * 128) :
    recsL s c 0 (rowsL n (rowsT 0 T ++ zerosB a) n) = T.map (·.2) := by
  rw [recs_rows T h1 h2 h3 (by omega) h5 (Nat.le_refl _), recs_zeros, List.append_nil]
theorem secL_zeros {D : Dk} : ∀ {n : Nat}, (∀ j, j < n → readD D (1 + j) = zeroS) → logB D n = zerosB (128 * n)
  | 0, _ => rfl
  | n + 1, h => by
    rw [logB_succ, secL_zeros fun j hj => h j (by omega), h n (by omega), show 128 * (n + 1) = 128 * n + 128 by omega]
    have e : zeroS = zerosB 128 := rfl
    rw [e]
    unfold zerosB
    exact List.replicate_append_replicate
end Go.Proofs.YtkkgahgpemepeaaGreat
namespace Go.Proofs.YtkkgahgpemepeaaGreat
open Go Go.RowKit Coup
theorem head_back {c s : Nat} (hc : c < 18446744073709551616) (hs : s < 18446744073709551616) : hdC (headB c s) = c ∧ hdS (headB c s) = s := by
  have hm : magic.length = 4 := rfl
  have e8 : (256 : Nat) ^ 8 = 18446744073709551616 := by decide
  refine ⟨?_, ?_⟩
  · rw [hdC, headB, List.drop_left' hm, List.take_left' (beB_length _ _), numB_beB, e8, Nat.mod_eq_of_lt hc]
  · have h1 : (magic ++ (beB 8 c ++ (beB 8 s ++ zerosB 108))).drop 12 = beB 8 s ++ zerosB 108 := by
      rw [← List.append_assoc, List.drop_left' (by rw [List.length_append, beB_length, hm])]
    rw [hdS, headB, h1, List.take_left' (beB_length _ _), numB_beB, e8, Nat.mod_eq_of_lt hs]
theorem head_torn (c s : Nat) : tornB (headB c s) zeroS = headB c s := by
  have hz : zeroS = zerosB 128 := rfl
  have hl : (magic ++ (beB 8 c ++ beB 8 s)).length = 20 := by simp [magic, beB_length]
  have he : headB c s = (magic ++ (beB 8 c ++ beB 8 s)) ++ zerosB 108 := by simp [headB, List.append_assoc]
  rw [tornB, hz, he, List.take_append, List.take_of_length_le (by rw [hl]; omega), hl, zeros_take, zeros_drop, List.append_assoc]
  congr 1
theorem head_is {c s : Nat} (h1 : 1 ≤ s) (h2 : s ≤ c) (h3 : c ≤ 4611686018427387904) : hdIs (headB c s) = true := by
  obtain ⟨e1, e2⟩ := head_back (c := c) (s := s) (by omega) (by omega)
  rw [hdIs, e1, e2, head_torn, decide_eq_true rfl, decide_eq_true h1, decide_eq_true h2, decide_eq_true h3]; rfl
theorem open_head {D : Dk} {c s : Nat} {n : Int} (hf : fitsN D.V.length n = true) (hr : readD D 0 = headB c s) (h1 : 1 ≤ s) (h2 : s ≤ c) (h3 : c < 4611686018427387904) : openE D n = 0 ∧ hdC (readD D 0) = c ∧ hdS (readD D 0) = s := by
  obtain ⟨e1, e2⟩ := head_back (c := c) (s := s) (by omega) (by omega)
  rw [openE, if_pos hf, hr, if_pos (head_is h1 h2 (by omega)), e1, if_neg (by omega)]
  exact ⟨rfl, rfl, e2⟩
end Go.Proofs.YtkkgahgpemepeaaGreat
namespace Go.Proofs.YtkkgahgpemepeaaGreat
open Go Go.RowKit Coup
theorem refW (p : Option Addr) (n cp : Nat) (l : List UInt8) (w : World) (h : SlAt w p n 128 (bv l)) (hn : n ≤ 100000) : Calls Tryz.prog 46 [.slice p n cp].toArray w (Ret fun v w' => RR l n w v w') := by
  by_cases h0 : 0 < n
  · exact refJoin p n cp l w h hn h0
  · obtain rfl : n = 0 := by omega
    exact refJoin0 p cp l w h
theorem joinRef (p : Option Addr) (n cp : Nat) (l : List UInt8) (w : World) (h : SlAt w p n 128 (bv l)) (hn : n ≤ 100000) : Calls Tryz.prog 46 [.slice p n cp].toArray w
    (Ret fun v w' => (∃ (c nn : Nat) (sp : Option Addr) (k cq m : Nat) (e : Bool) (b : List UInt8), v = .tuple #[.agg #[.int .u64 (c : Int), .int .i64 (nn : Int)], .slice sp k cq, .int .i64 (m : Int), .bool e] ∧ k = b.length ∧ SlAt w' sp k 1 (bv b) ∧ k ≤ cq ∧
      e = joinIs l n ∧ (e = true → c = hCount (halfAt l 0) ∧ nn = hNum (halfAt l 0) ∧ b = joinB l ∧ m = needN (joinB l).length)) ∧ Below w.heap.size w w') :=
  (refW p n cp l w h hn).to fun v w' ⟨h1, h2⟩ => by
    have hl : l.length = n * 128 := by simpa [bv_length] using h.len
    refine ⟨?_, h1⟩
    rcases h2 with ⟨h3, h2⟩ | ⟨h3, sp, cq, h2, h4, h5⟩
    · rw [refIs_eq l n hl] at h3
      exact ⟨0, 0, none, 0, 0, 0, false, [], h2, rfl, ⟨rfl, by decide, fun h0 => absurd h0 (by decide)⟩, Nat.le_refl _, h3.symm, fun e => nomatch e⟩
    · rw [refIs_eq l n hl] at h3
      obtain ⟨e1, e2⟩ := tag_yes (join_facts h3).2.1
      rw [e1, e2] at h2
      exact ⟨_, _, sp, _, cq, _, true, joinB l, h2, rfl, h4, h5, h3.symm, fun _ => ⟨rfl, rfl, rfl, rfl⟩⟩
theorem hdIs_half {s : Sec} (hs : s.length = 128) : hdIs s = (decide (0 < hdS s) && decide (hdS s ≤ hdC s) && decide (hdC s ≤ 4611686018427387904) && decide (s.take 64 = (headB (hdC s) (hdS s)).take 64)) := by
  have hh := headB_len (hdC s) (hdS s)
  have ht := head_torn (hdC s) (hdS s)
  have he : decide (tornB s zeroS = headB (hdC s) (hdS s)) = decide (s.take 64 = (headB (hdC s) (hdS s)).take 64) := by
    refine decide_eq_decide.2 ⟨fun h => ?_, fun h => ?_⟩
    · have h2 : (tornB s zeroS).take 64 = s.take 64 := by
        rw [tornB, List.take_append_of_le_length (by rw [List.length_take]; omega), List.take_take]; rfl
      rw [← h2, h]
    · have h1 : tornB s zeroS = s.take 64 ++ zeroS.drop 64 := rfl
      have h2 : tornB (headB (hdC s) (hdS s)) zeroS = (headB (hdC s) (hdS s)).take 64 ++ zeroS.drop 64 := rfl
      rw [h1, h, ← h2, ht]
  rw [hdIs, he]
  cases decide (s.take 64 = (headB (hdC s) (hdS s)).take 64) <;> cases decide (hdS s ≤ hdC s) <;> cases decide (hdC s ≤ 4611686018427387904) <;> simp [Nat.pos_iff_ne_zero, Nat.one_le_iff_ne_zero]
set_option maxRecDepth 20000 in
set_option maxHeartbeats 1000000 in
theorem rheadOf45 (s : Sec) (w : World) (hs : s.length = 128) :
    Calls Tryz.prog 45 [.agg (bv s).toArray].toArray w (Ret fun v w' => v = .tuple #[.int .u64 (hdC s : Int), .int .u64 (hdS s : Int), .bool (hdIs s)] ∧ Below w.heap.size w w') := by
  have hB := Below.refl w.heap.size w
  have hml : maxLen = 9223372036854775807 := by decide
  have hsb : (bv s).length = 128 := by rw [bv_length]; exact hs
  have hIs := hdIs_half hs
  have hc64 : hdC s < 18446744073709551616 := numB_lt_of _ 8 (by simp; omega)
  have hs64 : hdS s < 18446744073709551616 := numB_lt_of _ 8 (by simp; omega)
  have hgC : ∀ q c w', SlAt w' q 8 1 (bv ((s.drop 4).take 8)) → Calls Tryz.prog 75 [.slice q 8 c].toArray w' (Ret fun v w2 => v = .int .u64 (hdC s) ∧ w' = w2) := fun q c w' hq => get44w q 8 c _ w' hq (by omega)
  have hgS : ∀ q c w', SlAt w' q 8 1 (bv ((s.drop 12).take 8)) → Calls Tryz.prog 75 [.slice q 8 c].toArray w' (Ret fun v w2 => v = .int .u64 (hdS s) ∧ w' = w2) := fun q c w' hq => get44w q 8 c _ w' hq (by omega)
  have hH := fun w' => rhead28 (hdC s) (hdS s) hc64 hs64 w'
  have hHl := headB_len (hdC s) (hdS s)
  generalize headB (hdC s) (hdS s) = H at *
  generalize hdC s = C at *
  generalize hdS s = S at *
  generalize hdIs s = J at *
  have hHb : (bv H).length = 128 := by rw [bv_length]; exact hHl
  refine calls_W (fn := Tryz.f45) (rs := [.tmp 2, .tmp 3, .tmp 4]) (n := 37) Tryz.func45 rfl rfl Tryz.ntmps45 (by kernel_rfl) rfl ?_
  refine W_seq ?_
  refine W_region ?_
  refine WR_mk rfl (mk_box (bv s) rfl (fun g1 w1 hg1 hr1 hb1 => ?_))
  have ge_hB_g1 := Nat.le_trans hB.size hg1
  replace hB := hB.acc hb1
  refine WR_val rfl (rn_assign) ?_
  refine WR_val rfl (rn_assign) ?_
  refine WR_val rfl (rn_assign) ?_
  refine WR_nil ?_
  refine thenN ?_
  refine W_seq ?_
  refine W_draw' [] (by kernel_rfl) ?_
  intro w901 hb901 hS901
  replace hr1 := hr1.new hb901
  replace hB := hB.acc hb901
  have hr1_d901 := hr1
  have hB_d901 := hB
  refine WA_take 0 (by kernel_rfl) rfl (fun _ _ => rn_sliceAr1' (e := 5) (n := 128) (4) (12) (128) (8) (by kernel_rfl) rfl ⟨_, _, rfl, rfl⟩ ⟨_, _, rfl, rfl⟩ rfl (by simp) (by omega) (by omega) (by omega) (by omega) (by omega)) ?_
  refine WA_call 1 (by kernel_rfl) rfl (fun _ => rn_call (by kernel_rfl) rfl) (fun w' hS' => hgC _ _ w' ((hr1_d901.kpd hS' (by first | (simp; done) | (simp; omega) | (simp [*]; done) | exact notLL (Or.inl (by omega)) | exact notLL (Or.inr (by simp)) | exact fun g hm => Nat.le_trans (by omega) (inLL hm).1 | (intro b o e; cases e; exact notLL (Or.inl (by omega))) | (intro b hm; have := (hu.lt b (Option.mem_toList.1 hm)).1; omega) | (intro b o e; cases e; intro hm; have := (hu.lt _ (Option.mem_toList.1 hm)).1; omega))).slB 4 8 (by omega) (by omega))) ?_
  refine WA_take 2 (by kernel_rfl) rfl (fun _ _ => rn_sliceAr1' (e := 5) (n := 128) (12) (20) (128) (8) (by kernel_rfl) rfl ⟨_, _, rfl, rfl⟩ ⟨_, _, rfl, rfl⟩ rfl (by simp) (by omega) (by omega) (by omega) (by omega) (by omega)) ?_
  refine WA_call 3 (by kernel_rfl) rfl (fun _ => rn_call (by kernel_rfl) rfl) (fun w' hS' => hgS _ _ w' ((hr1_d901.kpd hS' (by first | (simp; done) | (simp; omega) | (simp [*]; done) | exact notLL (Or.inl (by omega)) | exact notLL (Or.inr (by simp)) | exact fun g hm => Nat.le_trans (by omega) (inLL hm).1 | (intro b o e; cases e; exact notLL (Or.inl (by omega))) | (intro b hm; have := (hu.lt b (Option.mem_toList.1 hm)).1; omega) | (intro b o e; cases e; intro hm; have := (hu.lt _ (Option.mem_toList.1 hm)).1; omega))).slB 12 8 (by omega) (by omega))) ?_
  refine WA_take 4 (by kernel_rfl) rfl (fun _ _ => rn_assign) ?_
  refine WA_take 5 (by kernel_rfl) rfl (fun _ _ => rn_assign) ?_
  refine WA_done (by kernel_rfl) ?_
  refine thenN ?_
  refine W_seq ?_
  refine W_region ?_
  refine WR_val rfl (rn_move) ?_
  refine WR_val rfl (rn_move) ?_
  refine WR_ent rfl (rn_call (by kernel_rfl) rfl) (hH w901) ?_
  rintro _ w15 ⟨rfl, hb15⟩
  replace hr1 := hr1.new hb15
  replace hB := hB.acc hb15
  refine WR_mk rfl (mk_alloc (List.replicate 128 (Value.int .u8 0)) (by kernel_rfl) (fun g7 w7 hg7 hr7 hb7 => ?_))
  have ge_hB_g7 := Nat.le_trans hB.size hg7
  have lt_g1_g7 : g1 < g7 := Nat.lt_of_lt_of_le hr1.lt hg7
  replace hr1 := hr1.new hb7
  replace hB := hB.acc hb7
  refine WR_sk rfl (sk_storeA 128 (bv H) rfl rfl hr7 (by kernel_rfl) (by first | assumption | (simp; done) | (simp [bv_length, *]; done)) (by first | assumption | (simp; done) | (simp [bv_length, *]; done) | rfl) (by first | exact bv_one _ | assumption | (simp [Value.oneCell']; done)) (fun w902 hr7 ho902 => ?_))
  replace hr1 := hr1.only ho902 (Nat.ne_of_lt lt_g1_g7)
  replace hB := ho902.below hB ge_hB_g7
  refine WR_nil ?_
  refine thenN ?_
  refine W_seq ?_
  refine W_draw' [] (by kernel_rfl) ?_
  intro w903 hb903 hS903
  replace hr1 := hr1.new hb903
  replace hr7 := hr7.new hb903
  replace hB := hB.acc hb903
  have hr1_d903 := hr1
  have hr7_d903 := hr7
  have hB_d903 := hB
  refine WA_take 0 (by kernel_rfl) rfl (fun _ _ => rn_move) ?_
  refine WA_take 1 (by kernel_rfl) rfl (fun _ _ => rn_gtr rfl rfl) ?_
  refine WA_take 2 (by kernel_rfl) rfl (fun _ _ => rn_move) ?_
  refine WA_part 18 rfl (fun h0 => ?_) (fun h0 => ?_)
  ·
    refine WA_take 3 (by kernel_rfl) rfl (fun _ _ => rn_move) ?_
    refine WA_take 4 (by kernel_rfl) rfl (fun _ _ => rn_move) ?_
    refine WA_take 5 (by kernel_rfl) rfl (fun _ _ => rn_leq rfl rfl) ?_
    refine WA_take 6 (by kernel_rfl) rfl (fun _ _ => rn_pick_t rfl) ?_
    refine WA_take 7 (by kernel_rfl) rfl (fun _ _ => rn_move) ?_
    refine WA_part 23 rfl (fun h1 => ?_) (fun h1 => ?_)
    ·
      refine WA_take 8 (by kernel_rfl) rfl (fun _ _ => rn_move) ?_
      refine WA_take 9 (by kernel_rfl) rfl (fun _ _ => rn_leq rfl rfl) ?_
      refine WA_take 10 (by kernel_rfl) rfl (fun _ _ => rn_pick_t rfl) ?_
      refine WA_take 11 (by kernel_rfl) rfl (fun _ _ => rn_move) ?_
      refine WA_part 27 rfl (fun h2 => ?_) (fun h2 => ?_)
      ·
        refine WA_take 12 (by kernel_rfl) rfl (fun _ _ => rn_sliceAr1' (e := 5) (n := 128) (0) (64) (128) (64) (by kernel_rfl) rfl rfl ⟨_, _, rfl, rfl⟩ rfl (by simp) (by omega) (by omega) (by omega) (by omega) (by omega)) ?_
        refine WA_take 13 (by kernel_rfl) rfl (fun w' hS' => rn_str (e := 5) (l := (s.drop 0).take 64) (by kernel_rfl) (by kernel_rfl) (by kernel_rfl) rfl ((hr1_d903.kpd hS' (by first | (simp; done) | (simp; omega) | (simp [*]; done) | exact notLL (Or.inl (by omega)) | exact notLL (Or.inr (by simp)) | exact fun g hm => Nat.le_trans (by omega) (inLL hm).1 | (intro b o e; cases e; exact notLL (Or.inl (by omega))) | (intro b hm; have := (hu.lt b (Option.mem_toList.1 hm)).1; omega) | (intro b o e; cases e; intro hm; have := (hu.lt _ (Option.mem_toList.1 hm)).1; omega))).slB 0 64 (by omega) (by omega))) ?_
        refine WA_take 14 (by kernel_rfl) rfl (fun _ _ => rn_sliceAr1' (e := 5) (n := 128) (0) (64) (128) (64) (by kernel_rfl) rfl rfl ⟨_, _, rfl, rfl⟩ rfl (by simp) (by omega) (by omega) (by omega) (by omega) (by omega)) ?_
        refine WA_take 15 (by kernel_rfl) rfl (fun w' hS' => rn_str (e := 5) (l := (H.drop 0).take 64) (by kernel_rfl) (by kernel_rfl) (by kernel_rfl) rfl ((hr7_d903.kpd hS' (by first | (simp; done) | (simp; omega) | (simp [*]; done) | exact notLL (Or.inl (by omega)) | exact notLL (Or.inr (by simp)) | exact fun g hm => Nat.le_trans (by omega) (inLL hm).1 | (intro b o e; cases e; exact notLL (Or.inl (by omega))) | (intro b hm; have := (hu.lt b (Option.mem_toList.1 hm)).1; omega) | (intro b o e; cases e; intro hm; have := (hu.lt _ (Option.mem_toList.1 hm)).1; omega))).slB 0 64 (by omega) (by omega))) ?_
        refine WA_take 16 (by kernel_rfl) rfl (fun _ _ => rn_eqlS rfl rfl) ?_
        refine WA_take 17 (by kernel_rfl) rfl (fun _ _ => rn_pick_t rfl) ?_
        refine WA_take 18 (by kernel_rfl) rfl (fun _ _ => rn_assign) ?_
        refine WA_done (by kernel_rfl) ?_
        refine thenN ?_
        refine W_seq ?_
        refine W_region ?_
        refine WR_val rfl (rn_move) ?_
        refine WR_val rfl (rn_move) ?_
        refine WR_val rfl (rn_move) ?_
        refine WR_val rfl (rn_assign) ?_
        refine WR_val rfl (rn_assign) ?_
        refine WR_val rfl (rn_assign) ?_
        refine WR_nil ?_
        refine thenN ?_
        refine W_ret ?_
        refine ret_ret [_, _, _] ⟨rfl, rfl, rfl, trivial⟩ ?_
        have e : J = decide ((s.drop 0).take 64 = (H.drop 0).take 64) := by
          rw [hIs, decide_eq_true (by omega : 0 < S), decide_eq_true (by omega : S ≤ C), decide_eq_true (by omega : C ≤ 4611686018427387904), List.drop_zero, List.drop_zero]; simp
        exact ⟨by rw [e]; rfl, hB⟩
      ·
        have e : J = false := by rw [hIs, decide_eq_false (by omega : ¬ C ≤ 4611686018427387904)]; simp
        refine WA_skip 12 (by kernel_rfl) rfl ?_
        refine WA_skip 13 (by kernel_rfl) rfl ?_
        refine WA_skip 14 (by kernel_rfl) rfl ?_
        refine WA_skip 15 (by kernel_rfl) rfl ?_
        refine WA_skip 16 (by kernel_rfl) rfl ?_
        refine WA_take 17 (by kernel_rfl) rfl (fun _ _ => rn_pick_f rfl) ?_
        refine WA_take 18 (by kernel_rfl) rfl (fun _ _ => rn_assign) ?_
        refine WA_done (by kernel_rfl) ?_
        refine thenN ?_
        refine W_seq ?_
        refine W_region ?_
        refine WR_val rfl (rn_move) ?_
        refine WR_val rfl (rn_move) ?_
        refine WR_val rfl (rn_move) ?_
        refine WR_val rfl (rn_assign) ?_
        refine WR_val rfl (rn_assign) ?_
        refine WR_val rfl (rn_assign) ?_
        refine WR_nil ?_
        refine thenN ?_
        refine W_ret ?_
        refine ret_ret [_, _, _] ⟨rfl, rfl, rfl, trivial⟩ ?_
        exact ⟨by rw [e]; rfl, hB⟩
    ·
      have e : J = false := by rw [hIs, decide_eq_false (by omega : ¬ S ≤ C)]; simp
      refine WA_skip 8 (by kernel_rfl) rfl ?_
      refine WA_skip 9 (by kernel_rfl) rfl ?_
      refine WA_take 10 (by kernel_rfl) rfl (fun _ _ => rn_pick_f rfl) ?_
      refine WA_take 11 (by kernel_rfl) rfl (fun _ _ => rn_move) ?_
      refine WA_skip 12 (by kernel_rfl) rfl ?_
      refine WA_skip 13 (by kernel_rfl) rfl ?_
      refine WA_skip 14 (by kernel_rfl) rfl ?_
      refine WA_skip 15 (by kernel_rfl) rfl ?_
      refine WA_skip 16 (by kernel_rfl) rfl ?_
      refine WA_take 17 (by kernel_rfl) rfl (fun _ _ => rn_pick_f rfl) ?_
      refine WA_take 18 (by kernel_rfl) rfl (fun _ _ => rn_assign) ?_
      refine WA_done (by kernel_rfl) ?_
      refine thenN ?_
      refine W_seq ?_
      refine W_region ?_
      refine WR_val rfl (rn_move) ?_
      refine WR_val rfl (rn_move) ?_
      refine WR_val rfl (rn_move) ?_
      refine WR_val rfl (rn_assign) ?_
      refine WR_val rfl (rn_assign) ?_
      refine WR_val rfl (rn_assign) ?_
      refine WR_nil ?_
      refine thenN ?_
      refine W_ret ?_
      refine ret_ret [_, _, _] ⟨rfl, rfl, rfl, trivial⟩ ?_
      exact ⟨by rw [e]; rfl, hB⟩
  ·
    have e : J = false := by rw [hIs, decide_eq_false (by omega : ¬ 0 < S)]; simp
    refine WA_skip 3 (by kernel_rfl) rfl ?_
    refine WA_skip 4 (by kernel_rfl) rfl ?_
    refine WA_skip 5 (by kernel_rfl) rfl ?_
    refine WA_take 6 (by kernel_rfl) rfl (fun _ _ => rn_pick_f rfl) ?_
    refine WA_take 7 (by kernel_rfl) rfl (fun _ _ => rn_move) ?_
    refine WA_skip 8 (by kernel_rfl) rfl ?_
    refine WA_skip 9 (by kernel_rfl) rfl ?_
    refine WA_take 10 (by kernel_rfl) rfl (fun _ _ => rn_pick_f rfl) ?_
    refine WA_take 11 (by kernel_rfl) rfl (fun _ _ => rn_move) ?_
    refine WA_skip 12 (by kernel_rfl) rfl ?_
    refine WA_skip 13 (by kernel_rfl) rfl ?_
    refine WA_skip 14 (by kernel_rfl) rfl ?_
    refine WA_skip 15 (by kernel_rfl) rfl ?_
    refine WA_skip 16 (by kernel_rfl) rfl ?_
    refine WA_take 17 (by kernel_rfl) rfl (fun _ _ => rn_pick_f rfl) ?_
    refine WA_take 18 (by kernel_rfl) rfl (fun _ _ => rn_assign) ?_
    refine WA_done (by kernel_rfl) ?_
    refine thenN ?_
    refine W_seq ?_
    refine W_region ?_
    refine WR_val rfl (rn_move) ?_
    refine WR_val rfl (rn_move) ?_
    refine WR_val rfl (rn_move) ?_
    refine WR_val rfl (rn_assign) ?_
    refine WR_val rfl (rn_assign) ?_
    refine WR_val rfl (rn_assign) ?_
    refine WR_nil ?_
    refine thenN ?_
    refine W_ret ?_
    refine ret_ret [_, _, _] ⟨rfl, rfl, rfl, trivial⟩ ?_
    exact ⟨by rw [e]; rfl, hB⟩
end Go.Proofs.YtkkgahgpemepeaaGreat
namespace Go.Proofs.YtkkgahgpemepeaaGreat
open Go Go.RowKit Coup
theorem LgAt.own {Y : World → List Nat → Prop} [hY : Thing Y] {g x lo : Nat} {L : List Nat} {D : Dk} {G : Lg} {w w' : World} {v : Value} (h : LgAt g x Y lo L D G w) (hg : w.grownBy w' v.ownBlock) (hv : ∀ b, v.ownBlock = some b → b ∈ L) : LgAt g x Y lo L D G w' :=
  h.kpd (Kp.of_grown hg) fun b hb => .inr (hv b (Option.mem_toList.1 hb))
def kR : Rec := recOf [⟨5, [7]⟩]
theorem kR_ok : chsOk kR := recOf_ok _
theorem kR_may : mayR kR = true := by
  rw [mayR, kR, recOf_len]
  rfl
theorem commit_alive {D : Dk} {G : Lg} {R : Rec} {k : Nat} (h : Alive D k) (hd : G.dead = false) (hm : mayR R = true) (hfit : G.at_ + (rowW G R).length ≤ G.size) (hn : 1 + G.size ≤ D.V.length) :
    commitR D G R = (0, (putW D (1 + G.at_) (rowW G R)).1, { G with at_ := G.at_ + (rowW G R).length, num := G.num + 1 }) := by
  obtain ⟨h1, _⟩ := putW_alive (rowW G R) (1 + G.at_) h
  rw [commitR, hd, if_neg (by simp), if_neg (by rw [hm]; simp), if_neg (by omega), h1, if_pos rfl]
theorem commit_full {D : Dk} {G : Lg} {R : Rec} (hd : G.dead = false) (hm : mayR R = true) (hfit : G.size < G.at_ + (rowW G R).length) : commitR D G R = (8, D, G) := by
  rw [commitR, hd, if_neg (by simp), if_neg (by rw [hm]; simp), if_pos hfit]
end Go.Proofs.YtkkgahgpemepeaaGreat
namespace Go.Proofs.YtkkgahgpemepeaaGreat
open Go Go.RowKit Coup
def kG : Lg := ⟨3, 3, 12, 0, 0, false⟩
def kG4 : Lg := ⟨3, 3, 12, 1, 6, false⟩
def kD1 : Dk := fmtD (newD 20) 12
def kD2 : Dk := saveD kD1 2 1
def kD3 : Dk := saveD kD2 3 3
def kD4 : Dk := (putW kD3 1 (rowW kG kR)).1
theorem kLen : (rowW kG kR).length = 6 := by rw [rowW_len, kR, recOf_len]; rfl
theorem kFit : fitsN 20 12 = true := by decide
theorem kd1 : Alive kD1 1 ∧ kD1.V.length = 20 ∧ ∀ j, j < 20 → readD kD1 j = if j = 0 then headB 1 1 else if j < 13 then zeroS else readD (newD 20) j := by
  have h := fmt_alive (alive_new (n := 20) (by omega)) 12
  rw [newD_len] at h
  exact h
theorem kd2 : saveE kD1 2 1 = true ∧ Alive kD2 1 ∧ kD2.V.length = 20 ∧ ∀ j, j < 20 → readD kD2 j = if j = 0 then headB 2 1 else readD kD1 j := by
  have h := save_alive kd1.1 2 1
  rw [kd1.2.1] at h
  exact h
theorem kd3 : saveE kD2 3 3 = true ∧ Alive kD3 1 ∧ kD3.V.length = 20 ∧ ∀ j, j < 20 → readD kD3 j = if j = 0 then headB 3 3 else readD kD2 j := by
  have h := save_alive kd2.2.1 3 3
  rw [kd2.2.2.1] at h
  exact h
theorem kd4 : (putW kD3 1 (rowW kG kR)).2 = true ∧ Alive kD4 1 ∧ kD4.V.length = 20 ∧ ∀ j, j < 20 → readD kD4 j = if 1 ≤ j ∧ j < 1 + 6 then (rowW kG kR).getD (j - 1) zeroS else readD kD3 j := by
  have h := putW_alive (rowW kG kR) 1 kd3.2.1
  rw [kd3.2.2.1, kLen] at h
  unfold kD4
  exact h
theorem kZero {D : Dk} (h : ∀ j, j < 12 → readD D (1 + j) = zeroS) : logB D 12 = zerosB (128 * 12) := secL_zeros h
theorem kz1 : ∀ j, j < 12 → readD kD1 (1 + j) = zeroS := fun j hj => by rw [kd1.2.2 _ (by omega), if_neg (by omega), if_pos (by omega)]
theorem kz3 : ∀ j, j < 12 → readD kD3 (1 + j) = zeroS := fun j hj => by
  rw [kd3.2.2.2 _ (by omega), if_neg (by omega), kd2.2.2.2 _ (by omega), if_neg (by omega), kz1 j hj]
theorem kOpen1 : openE kD1 12 = 0 ∧ hdC (readD kD1 0) = 1 ∧ hdS (readD kD1 0) = 1 :=
  open_head (by rw [kd1.2.1]; exact kFit) (by rw [kd1.2.2 0 (by omega), if_pos rfl]) (by omega) (by omega) (by omega)
theorem kRecs1 : recsOf kD1 (headG kD1 12) = [] := by
  have h : (headG kD1 12).size = 12 := rfl
  rw [recsOf, h, kZero kz1, recs_zeros]
theorem kOpen4 : openE kD4 12 = 0 ∧ hdC (readD kD4 0) = 3 ∧ hdS (readD kD4 0) = 3 :=
  open_head (by rw [kd4.2.2.1]; exact kFit) (by rw [kd4.2.2.2 0 (by omega), if_neg (by omega), kd3.2.2.2 0 (by omega), if_pos rfl]) (by omega) (by omega) (by omega)
theorem kCommit : commitR kD3 kG kR = (0, kD4, kG4) := by
  rw [commit_alive kd3.2.1 rfl kR_may (by rw [kLen]; decide) (by rw [kd3.2.2.1]; decide), kLen]
  rfl
theorem kFull {R : Rec} (hm : mayR R = true) (hl : R.length = 2) : commitR kD4 kG4 R = (8, kD4, kG4) :=
  commit_full rfl hm (by rw [rowW_len, hl]; decide)
theorem kOk3 : LgOk kD3 kG := ⟨by decide, by decide, by decide, by decide, by decide, by decide, by decide, by rw [kd3.2.2.1]; decide⟩
theorem kOk4 : LgOk kD4 kG4 := ⟨by decide, by decide, by decide, by decide, by decide, by decide, by decide, by rw [kd4.2.2.1]; decide⟩
theorem kLog4 (hD : DkOk kD3) : logB kD4 12 = rowsT 0 [(3, kR)] ++ zerosB (128 * 12 - 128 * 6) := by
  have h := logB_put (D := kD3) (D' := kD4) (n := 12) (a := 0) (R := rowW kG kR) (B := []) (X := zerosB (128 * 12)) hD (by rw [kd3.2.2.1]; decide) (by rw [kLen]; decide)
    (fun j hj => by rw [kd3.2.2.1] at hj; rw [kLen, Nat.add_zero]; exact kd4.2.2.2 j hj) (by rw [kZero kz3]; rfl) rfl
  rw [h, kLen, zeros_drop, (rowW_flat kG kR_ok).1, rowsT, rowsT, List.append_nil, List.nil_append]
  rfl
theorem headG_eq {D : Dk} {n : Int} {c s : Nat} (h1 : hdC (readD D 0) = c) (h2 : hdS (readD D 0) = s) : headG D n = ⟨c, s, n.toNat, 0, 0, false⟩ := by rw [headG, h1, h2]
theorem kRecs4 (hD : DkOk kD3) : recsOf kD4 (headG kD4 12) = [kR] := by
  have hg := headG_eq (n := 12) kOpen4.2.1 kOpen4.2.2
  have hok : okT 3 3 [(3, kR)] := fun x hx => by
    obtain rfl : x = (3, kR) := by simpa using hx
    exact ⟨Nat.le_refl _, Nat.le_refl _, kR_ok, kR_may⟩
  have hl := rowsT_len 0 hok
  have hat : atT [(3, kR)] = 6 := by
    have h := rowW_len kG kR
    rw [kLen] at h
    simp [atT, atS, ← h]
  rw [recsOf, hg]
  show recsL 3 3 0 (rowsL 12 (logB kD4 12) 12) = _
  rw [kLog4 hD]
  exact recs_then_zeros (by omega) (by omega) hok (by decide) (by rw [List.length_append, hl, hat, zerosB, List.length_replicate])
end Go.Proofs.YtkkgahgpemepeaaGreat
namespace Go.Proofs.YtkkgahgpemepeaaGreat
open Go Go.RowKit Coup
section
variable {Y : World → List Nat → Prop} [Thing Y] {g x lo : Nat} {L : List Nat} {w : World}
theorem kcF (h : Two (DZ g (newD 20)) Y lo L w) : Calls Tryz.prog 11 [.pointer (some ⟨g, 0, none⟩), .int .i64 12].toArray w (Ret fun v w' => v = .int .i64 0 ∧ Two (DZ g kD1) Y lo L w' ∧ LoL lo L w w') := by
  have hf := format26 h 12 ⟨by omega, by omega⟩ ((alive_new (n := 20) (by omega)).weak (by omega))
  rw [newD_len, show fitsN 20 12 = true from kFit, if_pos rfl, if_pos rfl] at hf
  exact hf
theorem kcO1 (h : Two (DZ g kD1) Y lo L w) : Calls Tryz.prog 7 [.pointer (some ⟨g, 0, none⟩), .int .i64 12].toArray w (Ret fun v w' => (∃ x p c, v = .tuple #[.pointer (some ⟨x, 0, none⟩), .slice p 0 c, .int .i64 0] ∧ LgAt g x (AndZ Y (AllZ p [])) lo L kD2 ⟨2, 1, 12, 0, 0, false⟩ w') ∧ LoL lo L w w') := by
  refine (openYes h 12 kOpen1.1 (short_of kd1.1.short (by omega))).to ?_
  rintro v w' ⟨ok, D2, C, s, S, hok, hD2, hC, hs, hS, hLL, hh⟩
  rw [kOpen1.2.1] at hC
  rw [kOpen1.2.2] at hs
  subst hC hs
  have hR := kRecs1
  rw [show ((12 : Nat) : Int) = 12 from rfl] at hS
  rw [hS] at hR
  subst hR
  rw [show (1 : Nat) + 1 = 2 from rfl] at *
  rw [kd2.1] at hok
  subst hok
  rcases hh with ⟨h, _⟩ | ⟨_, x, p, c, e, _, hG⟩
  · cases h
  · rw [show saveD kD1 2 1 = kD2 from rfl] at hD2
    subst hD2
    exact ⟨⟨x, p, c, e, hG⟩, hLL⟩
theorem kcT (h : LgAt g x Y lo L kD2 ⟨2, 1, 12, 0, 0, false⟩ w) : Calls Tryz.prog 29 [.pointer (some ⟨x, 0, none⟩)].toArray w (Ret fun v w' => v = .int .i64 0 ∧ LgAt g x Y lo L kD3 kG w' ∧ LoL lo L w w') := by
  refine (trunc18 h (by show (2 : Nat) ≤ _; omega) (short_of kd2.2.1.short (by omega))).to ?_
  rintro v w' ⟨e, he, hLL, hh⟩
  rcases hh with ⟨h, _⟩ | ⟨_, h, _⟩ | ⟨_, _, h, _⟩ | ⟨_, _, _, rfl, hG⟩
  · cases h
  · simp at h
  · rw [show saveE kD2 (2 + 1) (2 + 1) = true from kd3.1] at h; cases h
  · exact ⟨he, hG, hLL⟩
theorem kcC (h : LgAt g x Y lo L kD3 kG w) (p : Option Addr) (cp : Nat) (hs : SlAt w p 1 513 (chsV kR)) : Calls Tryz.prog 33 [.pointer (some ⟨x, 0, none⟩), .slice p 1 cp].toArray w (Ret fun v w' => v = .int .i64 0 ∧ LgAt g x Y lo L kD4 kG4 w' ∧ LoL lo L w w') := by
  have hc := commit17 h kOk3 (short_of kd3.2.1.short (by omega)) kR kR_ok p 1 cp hs (by rw [kR, recOf_len]; rfl) (by omega)
  rw [kCommit] at hc
  dsimp only at hc
  exact hc
theorem kcC2 (h : LgAt g x Y lo L kD4 kG4 w) {R : Rec} (hR : chsOk R) (hm : mayR R = true) (hl : R.length = 2) (p : Option Addr) (cp : Nat) (hs : SlAt w p 2 513 (chsV R)) : Calls Tryz.prog 33 [.pointer (some ⟨x, 0, none⟩), .slice p 2 cp].toArray w (Ret fun v w' => v = .int .i64 8 ∧ LgAt g x Y lo L kD4 kG4 w' ∧ LoL lo L w w') := by
  have hc := commit17 h kOk4 (short_of kd4.2.1.short (by omega)) R hR p 2 cp hs hl (by omega)
  rw [kFull hm hl] at hc
  dsimp only at hc
  exact hc
theorem kcO2 (h : Two (DZ g kD4) Y lo L w) (hD : DkOk kD3) : Calls Tryz.prog 7 [.pointer (some ⟨g, 0, none⟩), .int .i64 12].toArray w (Ret fun v w' => (∃ x p c, v = .tuple #[.pointer (some ⟨x, 0, none⟩), .slice p 1 c, .int .i64 0] ∧ AllR w' p [kR]) ∧ LoL lo L w w') := by
  refine (openYes h 12 kOpen4.1 (short_of kd4.2.1.short (by omega))).to ?_
  rintro v w' ⟨ok, D2, C, s, S, hok, hD2, hC, hs, hS, hLL, hh⟩
  have hR := kRecs4 hD
  rw [show ((12 : Nat) : Int) = 12 from rfl] at hS
  rw [hS] at hR
  subst hR
  have hsv := (save_alive kd4.2.1 (C + 1) s).1
  rw [hsv] at hok
  subst hok
  rcases hh with ⟨h, _⟩ | ⟨_, x, p, c, e, _, hG⟩
  · cases h
  · obtain ⟨⟨B, E, h1, ⟨C1, C2, _, h3, h4⟩, _⟩, _⟩ := hG.two
    exact ⟨⟨x, p, c, e, h4.r⟩, hLL⟩
end
set_option maxRecDepth 20000 in
set_option maxHeartbeats 2000000 in
theorem known7 (w : World) : Calls Tryz.prog 5 [].toArray w (Ret fun v w' => v = .bool true ∧ Below w.heap.size w w') := by
  have hB := Below.refl w.heap.size w
  have hml : maxLen = 9223372036854775807 := by decide
  have hF := fun g w' (h : Two (DZ g (newD 20)) None w.heap.size [] w') => kcF h
  have hO1 := fun g w' (h : Two (DZ g kD1) None w.heap.size [] w') => kcO1 h
  have hT := fun g x p w' (h : LgAt g x (AndZ None (AllZ p [])) w.heap.size [] kD2 ⟨2, 1, 12, 0, 0, false⟩ w') => kcT h
  have hC := fun g x p gb w' (h : LgAt g x (AndZ None (AllZ p [])) w.heap.size [gb] kD3 kG w') => kcC h
  have hC2 := fun g x p gb w' (h : LgAt g x (AndZ None (AllZ p [])) w.heap.size [gb] kD4 kG4 w') => @kcC2 _ _ _ _ _ _ _ h
  have hO2 := fun g p gb w' (h : Two (DZ g kD4) (AndZ None (AllZ p [])) w.heap.size [gb] w') => kcO2 h
  have hDk3 := fun g x p gb w' (h : LgAt g x (AndZ None (AllZ p [])) w.heap.size [gb] kD3 kG w') => (tOk h.two).1
  have hrec := fun p n cp w' (h : LvAt w' p n [⟨5, [7]⟩]) => record8 [⟨5, [7]⟩] p n cp w' h
  rw [show recOf [⟨5, [7]⟩] = kR from rfl] at hrec
  have hkl : kR.length = 1 := by rw [kR, recOf_len]; rfl
  have hkok := kR_ok
  have hkm := kR_may
  have hkkm : mayR (kR ++ kR) = true := by rw [mayR, List.length_append, kR, recOf_len]; rfl
  have hkkok : chsOk (kR ++ kR) := fun c hc => (List.mem_append.1 hc).elim (hkok c) (hkok c)
  have hkkv : chsV (kR ++ kR) = chsV kR ++ chsV kR := by simp [chsV]
  have hD0 : newD 20 = newD 20 := rfl
  obtain ⟨R, hRe⟩ : ∃ R, kR = R := ⟨_, rfl⟩
  rw [hRe] at hrec hkl hkok hkm hkkm hkkok hkkv hC hO2
  obtain ⟨DA, hDA⟩ : ∃ D, newD 20 = D := ⟨_, rfl⟩
  obtain ⟨DB, hDB⟩ : ∃ D, kD1 = D := ⟨_, rfl⟩
  obtain ⟨DC, hDC⟩ : ∃ D, kD2 = D := ⟨_, rfl⟩
  obtain ⟨DD, hDD⟩ : ∃ D, kD3 = D := ⟨_, rfl⟩
  obtain ⟨DE, hDE⟩ : ∃ D, kD4 = D := ⟨_, rfl⟩
  rw [hDA, hDB] at hF
  rw [hDB, hDC] at hO1
  rw [hDC, hDD] at hT
  rw [hDD, hDE] at hC
  rw [hDE] at hC2
  rw [hDE, hDD] at hO2
  rw [hDD] at hDk3
  have hn1 := fun w' => need10 1 w'
  rw [show needW 1 = 6 by decide] at hn1
  have hn2 := fun w' => need10 2 w'
  rw [show needW 2 = 11 by decide] at hn2
  have hn60 := fun w' => need10 60 w'
  rw [show needW 60 = 323 by decide] at hn60
  have hN := newC (w := w) 20 (by omega) (by omega)
  rw [hDA] at hN
  clear hDA hDB hDC hDD hDE hD0
  refine calls_W (fn := Tryz.f5) (rs := [.tmp 0]) (n := 108) Tryz.func5 rfl rfl Tryz.ntmps5 (by kernel_rfl) rfl ?_
  refine W_seq ?_
  refine W_region ?_
  refine WR_val rfl (rn_assign) ?_
  refine WR_nil ?_
  refine thenN ?_
  refine W_seq ?_
  refine W_region ?_
  refine WR_ent rfl (rn_call (by kernel_rfl) rfl) (hN) ?_
  rintro _ w8 ⟨g, B, rfl, hX, hBlo, hb8⟩
  replace hB := hB.acc hb8
  have hD : Two (DZ g DA) None w.heap.size [] w8 := Two.one hX (fun b hb => ⟨hBlo b hb, by simp⟩) (by have := hB.size; omega) (by simp)
  refine WR_val rfl (rn_move) ?_
  refine WR_val rfl (rn_extract rfl rfl) ?_
  refine WR_val rfl (rn_extract rfl rfl) ?_
  refine WR_val rfl (rn_assign) ?_
  refine WR_val rfl (rn_assign) ?_
  refine WR_nil ?_
  refine thenN ?_
  refine W_seq ?_
  refine W_seq ?_
  refine W_region ?_
  refine WR_val rfl (rn_move) ?_
  refine WR_val rfl (rn_neq rfl rfl) ?_
  refine WR_val rfl (rn_move) ?_
  refine WR_fp 13 rfl ((by omega)) ?_
  refine WR_yes rfl ?_
  refine WR_val rfl (rn_move) ?_
  refine WR_yes rfl ?_
  refine WR_ent rfl (rn_call (by kernel_rfl) rfl) (hF g w8 hD) ?_
  rintro _ w15 ⟨rfl, hD, hb15⟩
  replace hB := belLL hB hb15 (by omega)
  refine WR_yes rfl ?_
  refine WR_val rfl (rn_neq rfl rfl) ?_
  refine WR_val rfl (rn_pick_f rfl) ?_
  refine WR_val rfl (rn_move) ?_
  refine WR_fp 18 rfl ((by omega)) ?_
  refine WR_yes rfl ?_
  refine WR_ent rfl (rn_call (by kernel_rfl) rfl) (hn1 w15) ?_
  rintro _ _ ⟨rfl, rfl⟩
  refine WR_yes rfl ?_
  refine WR_val rfl (rn_neq rfl rfl) ?_
  refine WR_val rfl (rn_pick_f rfl) ?_
  refine WR_val rfl (rn_move) ?_
  refine WR_fp 22 rfl ((by omega)) ?_
  refine WR_yes rfl ?_
  refine WR_ent rfl (rn_call (by kernel_rfl) rfl) (hn2 w15) ?_
  rintro _ _ ⟨rfl, rfl⟩
  refine WR_yes rfl ?_
  refine WR_val rfl (rn_neq rfl rfl) ?_
  refine WR_val rfl (rn_pick_f rfl) ?_
  refine WR_val rfl (rn_move) ?_
  refine WR_fp 26 rfl ((by omega)) ?_
  refine WR_yes rfl ?_
  refine WR_ent rfl (rn_call (by kernel_rfl) rfl) (hn60 w15) ?_
  rintro _ _ ⟨rfl, rfl⟩
  refine WR_yes rfl ?_
  refine WR_val rfl (rn_neq rfl rfl) ?_
  refine WR_val rfl (rn_pick_f rfl) ?_
  refine WR_nil ?_
  refine thenN ?_
  refine W_fp rfl ((by simp)) ?_
  refine W_skip ?_
  refine thenN ?_
  refine W_seq ?_
  refine W_region ?_
  refine WR_val rfl (rn_move) ?_
  refine WR_ent rfl (rn_call (by kernel_rfl) rfl) (hO1 g w15 hD) ?_
  rintro _ w32 ⟨⟨x, p, c, rfl, hG⟩, hb32⟩
  replace hB := belLL hB hb32 (by omega)
  refine WR_val rfl (rn_move) ?_
  refine WR_val rfl (rn_extract rfl rfl) ?_
  refine WR_val rfl (rn_extract rfl rfl) ?_
  refine WR_val rfl (rn_extract rfl rfl) ?_
  refine WR_val rfl (rn_assign) ?_
  refine WR_val rfl (rn_assign) ?_
  refine WR_val rfl (rn_assign) ?_
  refine WR_nil ?_
  refine thenN ?_
  refine W_seq ?_
  refine W_seq ?_
  refine W_region ?_
  refine WR_val rfl (rn_move) ?_
  refine WR_val rfl (rn_neq rfl rfl) ?_
  refine WR_val rfl (rn_move) ?_
  refine WR_fp 38 rfl ((by omega)) ?_
  refine WR_yes rfl ?_
  refine WR_val rfl (rn_move) ?_
  refine WR_yes rfl ?_
  refine WR_val rfl (rn_lenSl (e := 60) (sz := 1) (by kernel_rfl) rfl rfl) ?_
  refine WR_yes rfl ?_
  refine WR_val rfl (rn_neq rfl rfl) ?_
  refine WR_val rfl (rn_pick_f rfl) ?_
  refine WR_val rfl (rn_move) ?_
  refine WR_fp 43 rfl ((by omega)) ?_
  refine WR_yes rfl ?_
  refine WR_val rfl (rn_move) ?_
  refine WR_yes rfl ?_
  refine WR_ent rfl (rn_call (by kernel_rfl) rfl) (count20 hG) ?_
  rintro _ _ ⟨rfl, rfl⟩
  refine WR_yes rfl ?_
  refine WR_val rfl (rn_neq rfl rfl) ?_
  refine WR_val rfl (rn_pick_f rfl) ?_
  refine WR_val rfl (rn_move) ?_
  refine WR_fp 48 rfl ((by simp)) ?_
  refine WR_yes rfl ?_
  refine WR_val rfl (rn_move) ?_
  refine WR_yes rfl ?_
  refine WR_ent rfl (rn_call (by kernel_rfl) rfl) (since21 hG) ?_
  rintro _ _ ⟨rfl, rfl⟩
  refine WR_yes rfl ?_
  refine WR_val rfl (rn_neq rfl rfl) ?_
  refine WR_val rfl (rn_pick_f rfl) ?_
  refine WR_val rfl (rn_move) ?_
  refine WR_fp 53 rfl ((by simp)) ?_
  refine WR_yes rfl ?_
  refine WR_val rfl (rn_move) ?_
  refine WR_yes rfl ?_
  refine WR_ent rfl (rn_call (by kernel_rfl) rfl) (hT g x p w32 hG) ?_
  rintro _ w55 ⟨rfl, hG, hb55⟩
  replace hB := belLL hB hb55 (by omega)
  refine WR_yes rfl ?_
  refine WR_val rfl (rn_neq rfl rfl) ?_
  refine WR_val rfl (rn_pick_f rfl) ?_
  refine WR_val rfl (rn_move) ?_
  refine WR_fp 58 rfl ((by omega)) ?_
  refine WR_yes rfl ?_
  refine WR_val rfl (rn_move) ?_
  refine WR_yes rfl ?_
  refine WR_ent rfl (rn_call (by kernel_rfl) rfl) (count20 hG) ?_
  rintro _ _ ⟨rfl, rfl⟩
  refine WR_yes rfl ?_
  refine WR_val rfl (rn_neq rfl rfl) ?_
  refine WR_val rfl (rn_pick_f rfl) ?_
  refine WR_val rfl (rn_move) ?_
  refine WR_fp 63 rfl ((by decide)) ?_
  refine WR_yes rfl ?_
  refine WR_val rfl (rn_move) ?_
  refine WR_yes rfl ?_
  refine WR_ent rfl (rn_call (by kernel_rfl) rfl) (since21 hG) ?_
  rintro _ _ ⟨rfl, rfl⟩
  refine WR_yes rfl ?_
  refine WR_val rfl (rn_neq rfl rfl) ?_
  refine WR_val rfl (rn_pick_f rfl) ?_
  refine WR_nil ?_
  refine thenN ?_
  refine W_fp rfl ((by decide)) ?_
  refine W_skip ?_
  refine thenN ?_
  refine W_seq ?_
  refine W_region ?_
  refine WR_mk rfl (mk_one (e := 5) (.int .u8 7) ([.int .u8 7]) ([Value.int .u8 0]) 1 (by kernel_rfl) (by kernel_rfl) rfl rfl rfl ⟨by decide, by decide⟩ (fun g68 w68 hg68 hr68 hb68 => ?_))
  have ge_hB_g68 := Nat.le_trans hB.size hg68
  replace hG := hG.newc hb68 hg68 hr68.lt
  replace hB := hB.acc hb68
  refine WR_val rfl (rn_built2 (.int .i64 5) (.slice (some ⟨g68, 0, none⟩) 1 1) [.int .i64 5, .slice (some ⟨g68, 0, none⟩) 1 1] rfl rfl (by kernel_rfl)) ?_
  refine WR_mk rfl (mk_one (e := 69) (.agg #[.int .i64 5, .slice (some ⟨g68, 0, none⟩) 1 1]) ([.int .i64 5, .slice (some ⟨g68, 0, none⟩) 1 1]) ([Value.int .i64 0, Value.slice none 0 0]) 2 (by kernel_rfl) (by kernel_rfl) rfl rfl (by first | rfl | (simp; done) | (simp [bv_length, *]; done)) ⟨by decide, by decide⟩ (fun g70 w70 hg70 hr70 hb70 => ?_))
  have ge_hB_g70 := Nat.le_trans hB.size hg70
  have lt_g68_g70 : g68 < g70 := Nat.lt_of_lt_of_le hr68.lt hg70
  replace hG := hG.newc hb70 hg70 hr70.lt
  replace hr68 := hr68.new hb70
  replace hB := hB.acc hb70
  have hlv : LvAt w70 (some ⟨g70, 0, none⟩) 1 [⟨5, [7]⟩] := ⟨rfl, _, hr70.slA (m := 1) (sz := 2) rfl (by omega), fun i x hx => by
    match i, hx with
    | 0, hx => cases hx; exact ⟨rfl, _, _, rfl, hr68.slA (m := 1) (sz := 1) rfl (by omega)⟩⟩
  have hsz71 := hB.size
  refine WR_ent rfl (rn_call (by kernel_rfl) rfl) (hrec _ 1 1 w70 hlv (by omega)) ?_
  rintro _ w71 ⟨hu, hb71⟩
  have hs := hu.form
  obtain ⟨pu, cu, rfl⟩ := hs
  have hob := hu.sl.some (by omega)
  obtain ⟨gb, ob, rfl, _⟩ := hob
  have hgb := hu.lt gb rfl
  replace hG := (hG.newc hb71 hgb.1 hgb.2).weak (L2 := [gb]) (by simp)
  replace hB := hB.acc hb71
  refine WR_val rfl (rn_assign) ?_
  refine WR_nil ?_
  refine thenN ?_
  refine W_seq ?_
  refine W_seq ?_
  refine W_region ?_
  refine WR_val rfl (rn_move) ?_
  refine WR_val rfl (rn_move) ?_
  have hdk := hDk3 g x p gb w71 hG
  refine WR_ent rfl (rn_call (by kernel_rfl) rfl) (hC g x p gb w71 hG _ cu hu.sl) ?_
  rintro _ w74 ⟨rfl, hG, hb74⟩
  replace hu := hu.kpd hb74.kp (by first | (refine notLL ?_; left; omega) | (refine notLL ?_; right; simp; done) | (intro b o e; cases e; first | (refine notLL ?_; left; omega) | (refine notLL ?_; right; simp; done) | (refine notLL ?_; right; simp [*]; done)) | (intro b hb; refine notLL ?_; left; omega) | (intro b hb e; cases e; exact notLL (by right; simp [*]) hb))
  replace hB := belLL hB hb74 (by omega)
  refine WR_val rfl (rn_neq rfl rfl) ?_
  refine WR_val rfl (rn_move) ?_
  refine WR_fp 76 rfl ((by omega)) ?_
  refine WR_yes rfl ?_
  refine WR_val rfl (rn_move) ?_
  refine WR_yes rfl ?_
  refine WR_ent rfl (rn_call (by kernel_rfl) rfl) (len22 hG) ?_
  rintro _ _ ⟨rfl, rfl⟩
  refine WR_yes rfl ?_
  refine WR_val rfl (rn_neq rfl rfl) ?_
  refine WR_val rfl (rn_pick_f rfl) ?_
  refine WR_val rfl (rn_move) ?_
  refine WR_fp 81 rfl ((by decide)) ?_
  refine WR_yes rfl ?_
  refine WR_val rfl (rn_move) ?_
  refine WR_yes rfl ?_
  refine WR_ent rfl (rn_call (by kernel_rfl) rfl) (room19 hG (by decide) (by decide)) ?_
  rintro _ w83 ⟨rfl, hb83⟩
  replace hG := hG.new hb83
  replace hu := hu.new hb83
  replace hB := hB.acc hb83
  refine WR_yes rfl ?_
  refine WR_val rfl (rn_neq rfl rfl) ?_
  refine WR_val rfl (rn_pick_f rfl) ?_
  refine WR_val rfl (rn_move) ?_
  refine WR_fp 86 rfl ((by decide)) ?_
  refine WR_yes rfl ?_
  refine WR_val rfl (rn_move) ?_
  refine WR_yes rfl ?_
  refine WR_val rfl (rn_move) ?_
  refine WR_yes rfl ?_
  refine WR_val rfl (rn_move) ?_
  refine WR_yes rfl ?_
  have hgb2 := hu.lt gb rfl
  refine WR_mk rfl (mk_appendK (e := 112) (sz := 513) (bytes := 520) (z := .agg (.int .i64 0 :: List.replicate 512 (.int .u8 0)).toArray) (by kernel_rfl) rfl (by kernel_rfl) rfl (by decide) rfl hu rfl hu.sl (chsV_one R) (by omega) (by omega) (by omega) (by omega) (fun v90 w90 hv90 hgr90 hfr90 hk90 => ?_))
  have hkp90 : Kp [gb] _ _ := Kp.of_grown hgr90
  replace hG := hG.kpd hkp90 (by first | (simp; done) | (simp; omega))
  replace hB := hB.kpd hkp90 (by first | (simp; done) | (simp; omega))
  refine WR_yes rfl ?_
  have hs2 := hv90.form
  obtain ⟨p2, c2, rfl⟩ := hs2
  have hv2 := hv90.sl
  rw [← hkkv] at hv2
  refine WR_ent rfl (rn_call (by kernel_rfl) rfl) (hC2 g x p gb w90 hG hkkok hkkm (by rw [List.length_append, hkl]) p2 c2 hv2) ?_
  rintro _ w91 ⟨rfl, hG, hb91⟩
  replace hk90 := hk90.kpd hb91.kp (by first | (refine notLL ?_; left; omega) | (refine notLL ?_; right; simp; done) | (intro b o e; cases e; first | (refine notLL ?_; left; omega) | (refine notLL ?_; right; simp; done) | (refine notLL ?_; right; simp [*]; done)) | (intro b hb; refine notLL ?_; left; omega) | (intro b hb e; cases e; exact notLL (by right; simp [*]) hb))
  replace hB := belLL hB hb91 (by omega)
  refine WR_yes rfl ?_
  refine WR_val rfl (rn_neq rfl rfl) ?_
  refine WR_val rfl (rn_pick_f rfl) ?_
  refine WR_nil ?_
  refine thenN ?_
  refine W_fp rfl ((by omega)) ?_
  refine W_skip ?_
  refine thenN ?_
  refine W_seq ?_
  refine W_region ?_
  have hD2 := hG.fst
  refine WR_val rfl (rn_move) ?_
  refine WR_ent rfl (rn_call (by kernel_rfl) rfl) (hO2 g p gb w91 hD2 hdk) ?_
  rintro _ w96 ⟨⟨x3, p3, c3, rfl, hA⟩, hb96⟩
  replace hk90 := hk90.kpd hb96.kp (by first | (refine notLL ?_; left; omega) | (refine notLL ?_; right; simp; done) | (intro b o e; cases e; first | (refine notLL ?_; left; omega) | (refine notLL ?_; right; simp; done) | (refine notLL ?_; right; simp [*]; done)) | (intro b hb; refine notLL ?_; left; omega) | (intro b hb e; cases e; exact notLL (by right; simp [*]) hb))
  replace hB := belLL hB hb96 (by omega)
  refine WR_val rfl (rn_move) ?_
  refine WR_val rfl (rn_extract rfl rfl) ?_
  refine WR_val rfl (rn_extract rfl rfl) ?_
  refine WR_val rfl (rn_extract rfl rfl) ?_
  refine WR_val rfl (rn_assign) ?_
  refine WR_val rfl (rn_assign) ?_
  refine WR_nil ?_
  refine thenN ?_
  refine W_seq ?_
  refine W_region ?_
  refine WR_val rfl (rn_move) ?_
  refine WR_val rfl (rn_eql rfl rfl) ?_
  refine WR_val rfl (rn_move) ?_
  refine WR_tp 102 rfl ((by simp)) ?_
  refine WR_yes rfl ?_
  refine WR_val rfl (rn_move) ?_
  refine WR_yes rfl ?_
  refine WR_val rfl (rn_move) ?_
  refine WR_yes rfl ?_
  have hus := hk90.sl
  refine WR_mk rfl (mk_one (e := 60) (.slice (some ⟨gb, ob, none⟩) 1 cu) ([.slice (some ⟨gb, ob, none⟩) 1 cu]) ([Value.slice none 0 0]) 1 (by kernel_rfl) (by kernel_rfl) rfl rfl rfl ⟨by decide, by decide⟩ (fun g105 w105 hg105 hr105 hb105 => ?_))
  have ge_hB_g105 := Nat.le_trans hB.size hg105
  replace hk90 := hk90.new hb105
  replace hA := hA.new hb105
  replace hus := hus.new hb105
  replace hB := hB.acc hb105
  refine WR_yes rfl ?_
  have hAR : AllR w105 (some ⟨g105, 0, none⟩) [R] := ⟨_, hr105.slA (m := 1) (sz := 1) rfl (by omega), fun i r hr => by
    match i, hr with
    | 0, hr => cases hr; exact ⟨_, cu, by rw [hkl]; rfl, by rw [hkl]; exact hus⟩⟩
  have hao : allOk [R] := fun r hr => by
    rw [List.mem_singleton.1 hr]
    exact ⟨hkok, by omega⟩
  refine WR_ent rfl (rn_call (by kernel_rfl) rfl) (sameAll37 [R] [R] hao hao _ _ 1 1 c3 1 w105 hA rfl hAR rfl (by omega)) ?_
  rintro _ w106 ⟨⟨bb, rfl, hbb⟩, hb106⟩
  replace hk90 := hk90.new hb106
  replace hA := hA.new hb106
  replace hus := hus.new hb106
  replace hr105 := hr105.new hb106
  replace hB := hB.acc hb106
  refine WR_val rfl (rn_pick_t rfl) ?_
  refine WR_val rfl (rn_assign) ?_
  refine WR_nil ?_
  refine thenN ?_
  refine W_ret ?_
  refine ret_ret [_] ⟨rfl, trivial⟩ ?_
  have hbt := hbb.2 rfl
  subst hbt
  exact ⟨rfl, hB⟩
end Go.Proofs.YtkkgahgpemepeaaGreat
namespace Go.Proofs.YtkkgahgpemepeaaGreat
open Go Go.RowKit Coup Go.ChangeShapes Go.WideShapes Go.Deep
def LfQ (W : World) (a : LeafT) (cs : List Value) : Prop := ∃ q cp, cs = [.int .i64 a.num, .slice q a.b.length cp] ∧ SlAt W q a.b.length 1 (bv a.b) ∧ a.b.length ≤ cp
theorem lfQ_opn {H : Type} {enc : TypeId × Value → H} {W : World} {base : Nat} {spare : Nat → Bool} {held : Bool} : Opn enc Tryz.prog W base spare held 69 (LfQ W) := fun fuel cs x h => by
  obtain ⟨hl, m, hf⟩ := opn_flds Tryz.underlying69 h
  have hl2 : cs.length = 2 := hl.trans (by kernel_rfl)
  obtain ⟨_, h0⟩ := fld hf 0 0 1 rfl rfl (by kernel_rfl)
  obtain ⟨_, h1⟩ := fld hf 1 1 1 rfl rfl (by kernel_rfl)
  obtain ⟨a, e0, w0⟩ := opn_int (by kernel_rfl) _ _ _ h0
  obtain ⟨R, q, cp, e1, hcp, hR⟩ := opn_slice (e := 5) (n := 1) (by kernel_rfl) (by kernel_rfl) (opn_int (k := .u8) (by kernel_rfl)) _ _ _ h1
  obtain ⟨l, hll, hl4⟩ := u8_of_els hR
  refine ⟨⟨a, l⟩, q, cp, ?_, by rw [hll]; exact hl4, by show l.length ≤ cp; omega⟩
  have k0 := cut_at cs 0 1
  have k1 := cut_at cs 1 1
  rw [e0] at k0
  rw [e1, List.drop_of_length_le (l := cs) (i := 1 + 1) (by omega), List.append_nil] at k1
  rw [k1] at k0
  rw [List.drop_zero] at k0
  rw [hll]
  exact k0
theorem LfQ.below {w w' : World} {a : LeafT} {cs : List Value} (h : LfQ w a cs) (hb : Below w.heap.size w w') : LfQ w' a cs := by
  obtain ⟨q, cp, h1, h2, h3⟩ := h
  exact ⟨q, cp, h1, h2.below hb (Nat.le_refl _), h3⟩
theorem lv_of_els {w : World} {p : Option Addr} {n : Nat} {R : List LeafT} (h : ElsAt (LfQ w) w 2 p n R) : LvAt w p n R := by
  obtain ⟨h1, cs, h2, h3⟩ := h
  refine ⟨h1, cs, h2, fun i x hx => ?_⟩
  obtain ⟨q, cp, e, h4, h5⟩ := h3 i x hx
  have e0 := congrArg (fun z => z[0]?) e
  have e1 := congrArg (fun z => z[1]?) e
  simp [List.getElem?_take, List.getElem?_drop] at e0 e1
  exact ⟨e0, q, cp, e1, h4⟩
theorem ofR_short {b : List UInt8} {r : Rec} (h : ofR b = some r) : chsOk r ∧ r.length ≤ 1000000 := by
  by_cases h5 : b.length % 516 = 0
  · have hb : b.length = 516 * (b.length / 516) := by omega
    have he := ofR_eq b _ hb
    rw [h] at he
    split at he
    · rename_i hm
      have hr := Option.some.inj he
      have hl := of_decide_eq_true (Bool.and_eq_true_iff.1 hm).1
      rw [hr]
      exact ⟨ofL_ok (by omega), by omega⟩
    · cases he
  · rw [ofR, ofOk, decide_eq_false h5] at h
    cases h
end Go.Proofs.YtkkgahgpemepeaaGreat
