/- Loops over functions, in the small machine: what comes is known one by one. -/
import Derived.Test.YtpndhildmfmcgaaVm4
namespace Coup
open Go Go.RowKit

/-- New blocks; and blocks from B on that are no cells are other ones. -/
structure Soft (B : Nat) (w w' : World) : Prop where
  os : w'.os = w.os
  tape : w'.tape = w.tape
  output : w'.output = w.output
  size : w.heap.size ≤ w'.heap.size
  block : ∀ k, k < w.heap.size → w'.heap[k]? = w.heap[k]? ∨ (B ≤ k ∧ ∃ o : Obj, w.heap[k]? = some o ∧ o.isCells = false)
namespace Soft
variable {B : Nat} {w w' w2 : World}
theorem refl (B : Nat) (w : World) : Soft B w w := ⟨rfl, rfl, rfl, Nat.le_refl _, fun _ _ => .inl rfl⟩
theorem of_below (h : Below w.heap.size w w') : Soft B w w' := ⟨h.os, h.tape, h.output, h.size, fun k hk => .inl (h.block k hk)⟩
theorem trans (h : Soft B w w') (k : Soft B w' w2) : Soft B w w2 :=
  ⟨k.os.trans h.os, k.tape.trans h.tape, k.output.trans h.output, Nat.le_trans h.size k.size, fun i hi => by
    rcases h.block i hi with e | e
    · rcases k.block i (Nat.lt_of_lt_of_le hi h.size) with e2 | ⟨e2, o, e3, e4⟩
      · exact .inl (e2.trans e)
      · exact .inr ⟨e2, o, by rw [← e]; exact e3, e4⟩
    · exact .inr e⟩
theorem put {l : Nat} {o : Obj} (o' : Obj) (hl : w.heap[l]? = some o) (hB : B ≤ l) (ho : o.isCells = false) : Soft B w (w.putObj l o') :=
  ⟨rfl, rfl, rfl, by simp, fun k _ => by
    by_cases e : k = l
    · subst e; exact .inr ⟨hB, o, hl, ho⟩
    · exact .inl (World.putObj_heap_other e)⟩
theorem cells (h : Soft B w w') {g : Nat} {o : Obj} (hg : w.heap[g]? = some o) (ho : o.isCells = true) : w'.heap[g]? = some o := by
  rcases h.block g (Array.getElem?_eq_some_iff.1 hg).1 with e | ⟨_, o', e, e2⟩
  · rw [e]; exact hg
  · rw [hg] at e; cases e; simp [ho] at e2
end Soft
section
variable {B : Nat} {w w0 w' : World}
theorem row.soft {g t : Nat} {cs : List Value} (h : row w g cs t) (k : Soft B w w') : row w' g cs t := k.cells h rfl
theorem _root_.Go.RowKit.Below.soft (h : Below w0.heap.size w0 w) (k : Soft B w w') (hB : w0.heap.size ≤ B) : Below w0.heap.size w0 w' :=
  ⟨k.os.trans h.os, k.tape.trans h.tape, k.output.trans h.output, Nat.le_trans h.size k.size, fun i hi => by
    rcases k.block i (Nat.lt_of_lt_of_le hi h.size) with e | ⟨e, _⟩
    · exact e.trans (h.block i hi)
    · omega⟩
theorem Kp.soft {M : List Nat} (h : Kp M w0 w) (k : Soft B w w') (hB : w0.heap.size ≤ B) : Kp M w0 w' :=
  ⟨k.os.trans h.os, k.tape.trans h.tape, k.output.trans h.output, Nat.le_trans h.size k.size, fun i hi hm => by
    rcases k.block i (Nat.lt_of_lt_of_le hi h.size) with e | ⟨e, _⟩
    · exact e.trans (h.block i hi hm)
    · omega⟩
theorem SlAt.soft {p : Option Addr} {m sz : Nat} {cs : List Value} (h : SlAt w p m sz cs) (k : Soft B w w') : SlAt w' p m sz cs := by
  refine ⟨h.len, h.max, fun h0 => ?_⟩
  obtain ⟨b, off, hp, hlt, hc⟩ := h.at_ h0
  refine ⟨b, off, hp, Nat.lt_of_lt_of_le hlt k.size, fun j hj => ?_⟩
  rw [← hc j hj]
  have hb : w'.heap[b]? = w.heap[b]? := by
    rcases k.block b hlt with e | ⟨_, o, e, e2⟩
    · exact e
    · have h1 := hc 0 h0
      have h2 : ∃ u, cs[0]? = Option.some u := ⟨_, List.getElem?_eq_getElem (by rw [h.len]; exact h0)⟩
      obtain ⟨u, h2⟩ := h2
      rw [h2] at h1
      simp only [World.cell?, e] at h1
      cases o <;> simp [Obj.isCells] at e2 h1
  simp only [World.cell?, hb]
theorem ownsAt.soft {base e sz m : Nat} {v : Value} {xs : List Value} (h : ownsAt w base e sz v m xs) (k : Soft B w w') : ownsAt w' base e sz v m xs := by
  refine ⟨h.1, ?_⟩
  rcases h.2 with hn | ⟨g, off, cap, cur, rfl, hb, hgg, rest⟩
  · exact .inl hn
  · exact .inr ⟨g, off, cap, cur, rfl, hb, k.cells hgg rfl, rest⟩
theorem SlsAt.soft {lo : Nat} {o : Option Nat} {vs : List Value} {L : List (List UInt8)} (h : SlsAt w lo o vs L) (k : Soft B w w') : SlsAt w' lo o vs L := ⟨h.len, fun i l hl => by
  obtain ⟨b, off, c, h1, h2, h3, h4⟩ := h.at_ i l hl
  exact ⟨b, off, c, h1, h2.soft k, Nat.lt_of_lt_of_le h3 k.size, h4⟩⟩
theorem keepsFrom_of_kp {M : List Nat} (h : Kp M w w') (hM : ∀ g, g ∈ M → g < B ∨ ∃ o : Obj, w.heap[g]? = some o ∧ o.isCells = true) : KeepsFrom B w w' :=
  ⟨h.size, fun k o hB hk ho => by
    rw [h.block k (Array.getElem?_eq_some_iff.1 hk).1 fun hm => by
      rcases hM k hm with e | ⟨o', e, e2⟩
      · omega
      · rw [hk] at e; cases e; simp [ho] at e2]
    exact hk⟩
end

/-- A call of yield asks for a round. -/
def YieldT (P : Program) (l : Nat) (v : List Value) (W : World) (R : Ending → World → Prop) : Prop :=
  ∃ fn tmps x y, (Instr.yield l v.toArray).run P W = .ok (.round l fn tmps x y) W ∧ RoundIn Fence.wide 0 P l fn tmps x y W R
/-- A function hands over these, one by one, till it is told to stop; it leans on some blocks that lay as in w. -/
def SeqT (P : Program) (gf : Nat) (lb : List Value) (xs : List (List Value)) (ks : List Nat) (w : World) : Prop :=
  ∀ (l : Nat) (J : Nat → World → Prop) (Jx : World → Prop) (W : World), Below w.heap.size w W →
    (∀ k W W', J k W → Below W.heap.size W W' → J k W') → (∀ W W', Jx W → Below W.heap.size W W' → Jx W') →
    (∀ k v W1, xs[k]? = some v → J k W1 → YieldT P l v W1 fun e W' => (e = .returned (.bool true) ∧ J (k + 1) W' ∧ (∀ b, b ∈ ks → W'.heap[b]? = W1.heap[b]?) ∧ W1.heap.size ≤ W'.heap.size) ∨ (e = .returned (.bool false) ∧ Jx W')) →
    J 0 W → Calls P gf (.func (.yield l) #[] #[] :: lb).toArray W (Ret fun _ W' => J xs.length W' ∨ Jx W')

section
variable {md : Option Nat → Prop} {P : Program} {n : Nat} {Q : Post} {ρ : Env} {w w0 : World}
theorem OpR_yield {d : Option Nat} {ty : TypeId} {pos : String} {af : Array Edge} {gd : Option (Nat × Bool)} {K : Env → World → Prop} {x : Operand} {al : List Operand} {vl : List Value} {ats : Array Nat} {l : Nat} {R : Ending → World → Prop}
    (hx : ev ρ x = .func (.yield l) #[] #[]) (hv : al.map (ev ρ) = vl) (hy : YieldT P l vl w R) (h : ∀ e w', R e w' → ∃ v, e = .returned v ∧ K (upo ρ d v) w') :
    OpR P ⟨d, .call ⟨.value x, al.toArray, ats⟩, ty, pos, af, gd⟩ K ρ w := by
  obtain ⟨fn, tmps, a, b, hr, hround⟩ := hy
  have hm : al.toArray.map (ev ρ) = vl.toArray := by rw [← hv]; simp
  have hrun : (execOp (ev ρ) ⟨d, .call ⟨.value x, al.toArray, ats⟩, ty, pos, af, gd⟩).run P w = .ok (.round l fn tmps a b) w := by
    simp only [execOp, resolve, hm, hx, Deferred.ofValue]
    simp [invoke, hr, Result.andThen]
  unfold OpR
  rw [hrun]
  exact hround.mono h
theorem WR_yield {ops : Array Oper} {rest : List Oper} {d : Option Nat} {ty : TypeId} {pos : String} {af : Array Edge} {x : Operand} {al : List Operand} {vl : List Value} {ats : Array Nat} {l : Nat} {R : Ending → World → Prop}
    (hx : ev ρ x = .func (.yield l) #[] #[]) (hv : al.map (ev ρ) = vl) (hy : YieldT P l vl w R) (h : ∀ e w', R e w' → ∃ v, e = .returned v ∧ WR md P n ops rest Q (upo ρ d v) w') :
    WR md P n ops (⟨d, .call ⟨.value x, al.toArray, ats⟩, ty, pos, af, none⟩ :: rest) Q ρ w := WR_op rfl (OpR_yield hx hv hy h)
/-- The temporaries of a round: as they were where the loop began, and what is handed over. -/
def setP (f : Nat → Value) : List Nat → List Value → Env
  | p :: ps, v :: vs => up (setP f ps vs) p v
  | _, _ => ⟨f, []⟩
theorem setP_ag {a : Act} (ha : Ag n a ρ) : ∀ (ps : List Nat) (v : List Value) (t : Array Value), t.size = n → (∀ i, t.getD i undef = ρ.f i) → (∀ p, p ∈ ps → p < n) → ps.Nodup →
    Ag n { tmps := (ps.zip v).foldl (fun t (p, u) => t.setIfInBounds p u) t, defers := [] } (setP ρ.f ps v) := by
  have gen : ∀ (ps : List Nat) (v : List Value) (t : Array Value) (f : Nat → Value), t.size = n → (∀ i, t.getD i undef = f i) → (∀ p, p ∈ ps → p < n) → ps.Nodup →
      Ag n { tmps := (ps.zip v).foldl (fun t (p, u) => t.setIfInBounds p u) t, defers := [] } (setP f ps v) := by
    intro ps
    induction ps with
    | nil => intro v t f h1 h2 _ _; exact ⟨rfl, h1, h2⟩
    | cons p ps ih =>
      intro v t f h1 h2 h3 h4
      cases v with
      | nil => exact ⟨rfl, h1, h2⟩
      | cons u v =>
        have hp := h3 p (by simp)
        have h5 := List.nodup_cons.1 h4
        have := ih v (t.setIfInBounds p u) (fun i => bif Nat.beq i p then u else f i) (by simp [h1]) (fun i => by
          by_cases e : i = p
          · subst e; have hb : Nat.beq i i = true := Nat.beq_refl i; simp [h1, hp, hb]
          · have hb : Nat.beq i p = false := by rw [Bool.eq_false_iff]; intro e'; exact e (Nat.eq_of_beq_eq_true e')
            have := h2 i
            simp only [hb, cond_false, ← this]
            simp [Array.getElem?_setIfInBounds_ne (Ne.symm e)]) (fun q hq => h3 q (by simp [hq])) h5.2
        have he : setP (fun i => bif Nat.beq i p then u else f i) ps v = setP f (p :: ps) (u :: v) := by
          clear this ih
          have key : ∀ (ps : List Nat) (v : List Value), p ∉ ps → setP (fun i => bif Nat.beq i p then u else f i) ps v = up (setP f ps v) p u := by
            intro ps
            induction ps with
            | nil => intro v _; rfl
            | cons q ps ih =>
              intro v hn
              cases v with
              | nil => rfl
              | cons x v =>
                simp only [setP]
                rw [ih v (by intro h; exact hn (by simp [h]))]
                exact upo_comm (setP f ps v) (d := some p) (e := some q) u x (fun k hk e => by cases hk; cases e; exact hn (by simp))
          exact key ps v h5.1
        rw [← he]
        exact this
  exact fun ps v t => gen ps v t ρ.f
/-- How a round's body may be left. -/
def roundQ (B : Nat) (ks : List Nat) (I : Nat → World → Prop) (Ix : Code → World → Prop) (k : Nat) (W2 : World) : Post
  | .normal, _, W' => KeepsFrom B W2 W' ∧ (∀ b, b ∈ ks → W'.heap[b]? = W2.heap[b]?) ∧ I (k + 1) W'
  | .ret, _, W' => KeepsFrom B W2 W' ∧ Ix .ret W'
  | .exit id, _, W' => KeepsFrom B W2 W' ∧ Ix (.exit id) W'
  | _, _, _ => False
theorem W_rangeFunc {g : Operand} {ps : List Nat} {assign body : Code} {gf : Nat} {lb : List Value} {xs : List (List Value)} {ks : List Nat} (hmd : ∀ rd, md rd → rd = none)
    (hg : ev ρ g = .func (.func gf) #[] lb.toArray) (hcan : canCall P gf = true) (hseq : SeqT P gf lb xs ks w0) (hb0 : Below w0.heap.size w0 w) (hps : ∀ v, v ∈ xs → v.length = ps.length) (hpn : ps.all (Nat.blt · n) = true) (hnd : ps.Nodup)
    (hks : ∀ b, b ∈ ks → b < w.heap.size)
    (I : Nat → World → Prop) (Ix : Code → World → Prop) (hI : ∀ k W W', I k W → Soft w.heap.size W W' → I k W') (hIx : ∀ c W W', Ix c W → Soft w.heap.size W W' → Ix c W') (h0 : I 0 w)
    (round : ∀ l k v W1, xs[k]? = some v → I k W1 → w.heap.size ≤ W1.heap.size → W (fun rd => rd = some l) P n assign
      (fun e ρ' W' => e = .normal ∧ Below W1.heap.size W1 W' ∧ ∀ W2, Soft w.heap.size W' W2 → W (fun rd => rd = some l) P n body (roundQ w.heap.size ks I Ix k W2) ρ' W2) (setP ρ.f ps v) W1)
    (hdone : ∀ D W, w.heap.size ≤ D → I xs.length W → W.heap[D]? = some (.deferred (some [])) → Q .normal ⟨ρ.f, D :: ρ.ms⟩ W)
    (hstop : ∀ D c W', w.heap.size ≤ D → Ix c W' → W'.heap[D]? = some (.deferred (some [])) → codeOk n c = true ∧ W md P n c Q ⟨ρ.f, D :: ρ.ms⟩ W') :
    W md P n (.rangeFunc g ps.toArray assign body) Q ρ w := by
  intro hc rd a hrd ha
  obtain rfl := hmd rd hrd
  simp only [codeOk, Bool.and_eq_true] at hc
  have hpn' : ∀ p, p ∈ ps → p < n := fun p hp => by have := List.all_eq_true.1 hpn p hp; simpa using this
  refine wpIn_rangeFunc ?_
  intro fn hfn
  obtain ⟨rec, hrec⟩ : ∃ rec : LoopState → Option Code → Loop, rec = fun st pe => { state := st, pending := pe, fn, tmps := a.tmps, params := ps.toArray, assign, body, defers := w.heap.size } := ⟨_, rfl⟩
  obtain ⟨W1, hW1⟩ : ∃ W1, (w.alloc (.deferred (some []))).alloc (.loop (rec .ready none)) = W1 := ⟨_, rfl⟩
  have hs1 : W1.heap.size = w.heap.size + 2 := by rw [← hW1]; simp
  have hL1 : W1.heap[w.heap.size + 1]? = some (.loop (rec .ready none)) := by
    rw [← hW1]; have := World.alloc_heap_new (w.alloc (.deferred (some []))) (.loop (rec .ready none)); rwa [World.size_alloc] at this
  have hK1 : W1.heap[w.heap.size]? = some (.deferred (some [])) := by
    rw [← hW1]; exact (Below.heap_alloc _ _ _ (by simp)).trans (World.alloc_heap_new w _)
  have hbw : Below w.heap.size w W1 := by rw [← hW1]; exact ((Below.refl _ w).alloc (Nat.le_refl _) _).alloc (by simp) _
  have hI1 : I 0 W1 := hI 0 w W1 h0 (Soft.of_below hbw)
  have hb1 : Below w0.heap.size w0 W1 := hb0.acc hbw
  have hro : (fr none).round = none := rfl
  obtain ⟨lw, hlw⟩ : ∃ lw, lw = w.heap.size + 1 := ⟨_, rfl⟩
  have hcall : (callFunc gf (.func (.yield lw) #[] #[] :: lb).toArray).run P W1 = .ok (.enter gf (.func (.yield lw) #[] #[] :: lb).toArray) W1 := by
    unfold canCall at hcan
    cases hfn : P.funcs[gf]? with
    | none => simp [hfn] at hcan
    | some f =>
      rw [hfn] at hcan
      simp only [Bool.and_eq_true, Bool.not_eq_true'] at hcan
      cases hb : f.body with
      | none => simp [hb] at hcan
      | some c =>
        have hn : ¬ f.name = "runtime.NumGoroutine" := by simpa using hcan.1
        simp [callFunc, program, Sem.run, hfn, hn, hb, Result.andThen]
  have hae : a.eval g = .func (.func gf) #[] lb.toArray := by rw [ha.ev]; exact hg
  refine ⟨lw, [mkD w.heap.size], W1, { target := .fn (.func gf) lb.toArray, args := #[.func (.yield lw) #[] #[]] }, W1, gf, (.func (.yield lw) #[] #[] :: lb).toArray, W1, ?_, ?_, fun f' _ => fr_fn none f', ?_, fun hdp => by (rw [fr_depth] at hdp; cases hdp), ?_⟩
  · rw [hro, hlw, ← hW1, hrec]; exact run_enterLoop_outer _ _ _ _ _
  · simp only [resolve, rangeCall, hae]
    simp [Deferred.ofValue, Act.eval]
  · have e : #[Value.func (.yield lw) #[] #[]] ++ lb.toArray = (.func (.yield lw) #[] #[] :: lb).toArray := by simp
    simp only [invoke, e]
    exact hcall
  · refine fr_calls ((hseq lw (fun k W => I k W ∧ W.heap[w.heap.size + 1]? = some (.loop (rec .ready none)) ∧ W.heap[w.heap.size]? = some (.deferred (some [])))
      (fun W => ∃ c, Ix c W ∧ W.heap[w.heap.size + 1]? = some (.loop (rec .done (some c))) ∧ W.heap[w.heap.size]? = some (.deferred (some []))) W1 hb1 ?_ ?_ ?_ ⟨hI1, hL1, hK1⟩).mono ?_)
    · rintro k A B ⟨h1, h2, h3⟩ hAB
      exact ⟨hI k A B h1 (Soft.of_below hAB), by rw [hAB.block _ (Array.getElem?_eq_some_iff.1 h2).1]; exact h2, by rw [hAB.block _ (Array.getElem?_eq_some_iff.1 h3).1]; exact h3⟩
    · rintro A B ⟨c, h1, h2, h3⟩ hAB
      exact ⟨c, hIx c A B h1 (Soft.of_below hAB), by rw [hAB.block _ (Array.getElem?_eq_some_iff.1 h2).1]; exact h2, by rw [hAB.block _ (Array.getElem?_eq_some_iff.1 h3).1]; exact h3⟩
    · rintro k v W hv ⟨hi, hl, hk⟩
      have hlt : w.heap.size + 1 < W.heap.size := (Array.getElem?_eq_some_iff.1 hl).1
      have hvl := hps v (List.mem_of_getElem? hv)
      have hy := run_yield (P := P) (args := v.toArray) hl (by rw [hrec]; simpa using hvl)
      rw [hrec] at hy
      refine ⟨fn, _, assign, body, by rw [hlw]; exact hy, ?_⟩
      clear hy
      refine roundIn_of_wpIn (F := Fence.wide) (n := 0) trivial ?_
      have hag : Ag n { tmps := (ps.toArray.zip v.toArray).foldl (fun t (p, u) => t.setIfInBounds p u) a.tmps, defers := [] } (setP ρ.f ps v) := by
        have := setP_ag ha ps v a.tmps ha.s ha.t hpn' hnd
        rw [← Array.foldl_toList, Array.toList_zip]
        exact this
      have hA := round lw k v W hv hi (by omega) hc.1 (some lw) _ rfl hag
      have hA' : assign.wpIn (Fence.wide.inRound lw) 0 P _ _ W := fun b k' cs h1 h2 h3 => hA b k' cs h1 h2 (room_wide _)
      refine wpIn_mono hA' ?_
      rintro e a' Wa ⟨ρ', h1, rfl, hbel, hbody⟩
      show ∃ w2, _
      have hl2 : Wa.heap[w.heap.size + 1]? = some (.loop (rec .ready none)) := by rw [hbel.block _ hlt]; exact hl
      have hk2 : Wa.heap[w.heap.size]? = some (.deferred (some [])) := by rw [hbel.block _ (by omega)]; exact hk
      have hlt2 := (Array.getElem?_eq_some_iff.1 hl2).1
      refine ⟨_, by rw [hlw]; exact run_beginRound hl2 (by rw [hrec]), ?_⟩
      obtain ⟨W2, hW2⟩ : ∃ W2, W2 = Wa.putObj (w.heap.size + 1) (.loop { rec .ready none with state := .busy }) := ⟨_, rfl⟩
      have hl3 : W2.heap[w.heap.size + 1]? = some (.loop { rec .ready none with state := .busy }) := by rw [hW2]; exact World.putObj_heap_same hlt2
      have hk3 : W2.heap[w.heap.size]? = some (.deferred (some [])) := by rw [hW2]; exact (World.putObj_heap_other (by omega)).trans hk2
      have hsf : Soft w.heap.size Wa W2 := by rw [hW2]; exact Soft.put _ hl2 (by omega) rfl
      rw [← hW2]
      have hB := hbody W2 hsf hc.2 (some lw) a' rfl h1
      have hB' : body.wpIn (Fence.wide.inRound lw) 0 P _ a' W2 := fun b k' cs h1 h2 h3 => hB b k' cs h1 h2 (room_wide _)
      refine wpIn_mono hB' ?_
      have fin : ∀ (jump : Option Code) (W3 : World), KeepsFrom w.heap.size W2 W3 →
          (Instr.endRound lw jump).run P W3 = .ok (.bool jump.isNone) (W3.putObj (w.heap.size + 1) (.loop (rec (if jump.isNone then .ready else .done) jump))) ∧
          Soft w.heap.size W3 (W3.putObj (w.heap.size + 1) (.loop (rec (if jump.isNone then .ready else .done) jump))) ∧
          (W3.putObj (w.heap.size + 1) (.loop (rec (if jump.isNone then .ready else .done) jump))).heap[w.heap.size + 1]? = some (.loop (rec (if jump.isNone then .ready else .done) jump)) ∧
          (W3.putObj (w.heap.size + 1) (.loop (rec (if jump.isNone then .ready else .done) jump))).heap[w.heap.size]? = some (.deferred (some [])) := fun jump W3 hk3' => by
        have hl4 := hk3'.same _ _ (by omega) hl3 rfl
        have := run_endRound (P := P) jump hl4
        rw [hrec] at this ⊢
        refine ⟨by rw [hlw]; exact this, Soft.put _ hl4 (by omega) rfl, World.putObj_heap_same (Array.getElem?_eq_some_iff.1 hl4).1, (World.putObj_heap_other (by omega)).trans (hk3'.same _ _ (Nat.le_refl _) hk3 rfl)⟩
      rintro e a3 W3 ⟨ρ3, _, hp⟩
      have hkw : ∀ b, b ∈ ks → W2.heap[b]? = W.heap[b]? := fun b hb => by
        have := hks b hb
        rw [hW2, World.putObj_heap_other (by omega), hbel.block b (by omega)]
      have hsz2 : W.heap.size ≤ W2.heap.size := by rw [hW2]; simpa using hbel.size
      cases e with
      | normal =>
        obtain ⟨hp1, hp2, hp3⟩ := hp
        obtain ⟨hr, hs, hl5, hk5⟩ := fin none W3 hp1
        refine ⟨_, _, hr, .inl ⟨rfl, ⟨hI _ _ _ hp3 hs, hl5, hk5⟩, fun b hb => ?_, ?_⟩⟩
        · have := hks b hb
          rw [World.putObj_heap_other (by omega), hp2 b hb, hkw b hb]
        · have := hp1.size; simp; omega
      | ret =>
        obtain ⟨hp1, hp2⟩ := hp
        obtain ⟨hr, hs, hl5, hk5⟩ := fin (some .ret) W3 hp1
        exact ⟨_, _, hr, .inr ⟨rfl, .ret, hIx _ _ _ hp2 hs, hl5, hk5⟩⟩
      | exit id =>
        obtain ⟨hp1, hp2⟩ := hp
        obtain ⟨hr, hs, hl5, hk5⟩ := fin (some (.exit id)) W3 hp1
        exact ⟨_, _, hr, .inr ⟨rfl, .exit id, hIx _ _ _ hp2 hs, hl5, hk5⟩⟩
      | goto t => exact hp.elim
      | panic ch => exact hp.elim
      | outgrown => exact hp.elim
    · rintro e W2 ⟨v, rfl, (⟨hi, hl, hk⟩ | ⟨c, hi, hl, hk⟩)⟩
      · refine ⟨none, _, by have := run_endLoop (P := P) hl (by rw [hrec]; simp); rw [hrec] at this; rw [hlw]; exact this, ?_⟩
        refine ⟨⟨ρ.f, w.heap.size :: ρ.ms⟩, ⟨by simp [ha.d], ha.s, ha.t⟩, hdone w.heap.size _ (Nat.le_refl _) (hI _ _ _ hi (Soft.put _ hl (by omega) rfl)) ((World.putObj_heap_other (by omega)).trans hk)⟩
      · refine ⟨some c, _, by have := run_endLoop (P := P) hl (by rw [hrec]; simp); rw [hrec] at this; rw [hlw]; exact this, ?_⟩
        obtain ⟨h1, h2⟩ := hstop w.heap.size c _ (Nat.le_refl _) (hIx _ _ _ hi (Soft.put _ hl (by omega) rfl)) ((World.putObj_heap_other (by omega)).trans hk)
        exact h2 h1 none _ hrd ⟨by simp [ha.d], ha.s, ha.t⟩
end
end Coup
