/- Regions that draw their order, in the small machine. -/
import Derived.Test.YtpndhildmfmcgaaVm
namespace Coup
open Go Go.RowKit

/-- As it was but for some blocks. -/
structure Kp (M : List Nat) (w w' : World) : Prop where
  os : w'.os = w.os
  tape : w'.tape = w.tape
  output : w'.output = w.output
  size : w.heap.size ≤ w'.heap.size
  block : ∀ k, k < w.heap.size → k ∉ M → w'.heap[k]? = w.heap[k]?
namespace Kp
variable {M N : List Nat} {w w1 w2 : World}
theorem refl (M : List Nat) (w : World) : Kp M w w := ⟨rfl, rfl, rfl, Nat.le_refl _, fun _ _ _ => rfl⟩
theorem trans (h : Kp M w w1) (k : Kp M w1 w2) : Kp M w w2 :=
  ⟨k.os.trans h.os, k.tape.trans h.tape, k.output.trans h.output, Nat.le_trans h.size k.size, fun i hi hm => (k.block i (Nat.lt_of_lt_of_le hi h.size) hm).trans (h.block i hi hm)⟩
theorem of_below (h : Below w.heap.size w w1) : Kp M w w1 := ⟨h.os, h.tape, h.output, h.size, fun k hk _ => h.block k hk⟩
theorem below (h : Kp [] w w1) : Below w.heap.size w w1 := ⟨h.os, h.tape, h.output, h.size, fun k hk => h.block k hk (by simp)⟩
theorem weak (h : Kp M w w1) (hs : ∀ k, k < w.heap.size → k ∈ M → k ∈ N) : Kp N w w1 := ⟨h.os, h.tape, h.output, h.size, fun k hk hn => h.block k hk fun hm => hn (hs k hk hm)⟩
theorem of_only {g : Nat} (h : Only g w w1) : Kp [g] w w1 := ⟨h.os, h.tape, h.output, Nat.le_of_eq h.size.symm, fun k _ hm => h.block k (by simpa using hm)⟩
/-- What is done to other blocks, and to new ones. -/
theorem add (h : Kp M w w1) (k : Kp N w1 w2) (hn : ∀ g, g ∈ N → w.heap.size ≤ g ∨ g ∈ M) : Kp M w w2 :=
  ⟨k.os.trans h.os, k.tape.trans h.tape, k.output.trans h.output, Nat.le_trans h.size k.size, fun i hi hm =>
    (k.block i (Nat.lt_of_lt_of_le hi h.size) fun hi2 => (hn i hi2).elim (fun h' => absurd hi (Nat.not_lt.2 h')) hm).trans (h.block i hi hm)⟩
theorem add0 (h : Kp M w w1) (k : Below w1.heap.size w1 w2) : Kp M w w2 := h.add (N := []) (of_below k) (by simp)
theorem add1 {g : Nat} (h : Kp M w w1) (k : Only g w1 w2) (hg : w.heap.size ≤ g ∨ g ∈ M) : Kp M w w2 := h.add (of_only k) (by simpa using hg)
theorem drew (h : Kp M w w1) : Kp M w w1.drew := ⟨h.os, h.tape, h.output, h.size, h.block⟩
end Kp
theorem row.kp {w w' : World} {g : Nat} {l : List Value} {t : TypeId} {M : List Nat} (h : row w g l t) (k : Kp M w w') (hg : g ∉ M) : row w' g l t := (k.block g h.lt hg).trans h
theorem _root_.Go.RowKit.Below.acc {w0 w w' : World} (h : Below w0.heap.size w0 w) (k : Below w.heap.size w w') : Below w0.heap.size w0 w' := h.trans (k.mono h.size)

def nthO : List Oper → Nat → Oper
  | [], _ => default
  | o :: _, 0 => o
  | _ :: l, i + 1 => nthO l i
theorem nthO_get {l : List Oper} : ∀ {i : Nat}, i < l.length → l.toArray[i]? = some (nthO l i) := by
  induction l with
  | nil => intro i h; simp at h
  | cons o l ih =>
    intro i h
    cases i with
    | zero => simp [nthO]
    | succ i => have := ih (i := i) (by simpa using h); simpa [nthO] using this
def lst (n : Nat) : List Nat → Array Bool
  | [] => Array.replicate n false
  | i :: d => (lst n d).setIfInBounds i true
def chkTake (l : List Oper) (done : List Nat) (i : Nat) : Bool :=
  Nat.blt i l.length && Nat.blt done.length l.length && Region.noSelect l.toArray && Region.free .any l.toArray (lst l.length done) i && (Region.ready .any l.toArray (lst l.length done)).contains i
def chkLoud (l : List Oper) (done : List Nat) (is : List Nat) : Bool :=
  Nat.blt done.length l.length && (Region.ready .any l.toArray (lst l.length done) == is) && is.all fun i => Nat.blt i l.length
def chkDone (l : List Oper) (done : List Nat) : Bool := Region.ready .any l.toArray (lst l.length done) == []

/-- One operation comes up, or is passed over. -/
def OpG (P : Program) (l : List Oper) (i : Nat) (K : Env → World → Prop) (ρ : Env) (w : World) : Prop :=
  if Region.wanted (nthO l i) (yl l.toArray ρ) = true then OpR P (nthO l i) K ρ w else K (upo ρ (nthO l i).dst undef) w
/-- Whatever order is taken, S holding all the way. -/
def AnyS (P : Program) (l : List Oper) (S : World → Prop) (Q : Post) : Nat → List Nat → Env → World → Prop
  | 0, done, ρ, w => Region.ready .any l.toArray (lst l.length done) = [] ∧ Q .normal ρ w
  | f + 1, done, ρ, w => (Region.ready .any l.toArray (lst l.length done) = [] → Q .normal ρ w) ∧
      ∀ i ∈ Region.ready .any l.toArray (lst l.length done), OpG P l i (fun ρ' w' => S w' ∧ AnyS P l S Q f (i :: done) ρ' w') ρ w
def WA (_md : Option Nat → Prop) (P : Program) (n : Nat) (l : List Oper) (S : World → Prop) (Q : Post) (done : List Nat) (ρ : Env) (w : World) : Prop :=
  l.all (opOk n) = true → S w → AnyS P l S Q (l.length - done.length) done ρ w
/-- One operation of the region comes up. -/
def WO (_md : Option Nat → Prop) (P : Program) (n : Nat) (l : List Oper) (S : World → Prop) (Q : Post) (done : List Nat) (i : Nat) (ρ : Env) (w : World) : Prop :=
  l.all (opOk n) = true → S w → OpG P l i (fun ρ' w' => S w' ∧ AnyS P l S Q (l.length - (i :: done).length) (i :: done) ρ' w') ρ w

section
variable {md : Option Nat → Prop} {P : Program} {n : Nat} {Q : Post} {ρ : Env} {w : World} {l : List Oper} {S : World → Prop} {done : List Nat}
theorem OpG.mono {i : Nat} {K K' : Env → World → Prop} (h : OpG P l i K ρ w) (hk : ∀ ρ w, K ρ w → K' ρ w) : OpG P l i K' ρ w := by
  unfold OpG at *
  split
  · rename_i hw; rw [if_pos hw] at h; exact h.mono hk
  · rename_i hw; rw [if_neg hw] at h; exact hk _ _ h
theorem wanted_yl {a : Act} (ha : Ag n a ρ) (o : Oper) (ops : Array Oper) : Region.wanted o (yielded ops a.tmps) = Region.wanted o (yl ops ρ) := by
  have := ha.yl ops
  simp only [Region.wanted]
  cases o.guard with
  | none => rfl
  | some p => simp only; rw [this]
theorem opOk_nth (hl : l.all (opOk n) = true) {i : Nat} (hi : i < l.length) : opOk n (nthO l i) = true := by
  have h1 := nthO_get hi
  have h2 : nthO l i ∈ l := by
    have : l[i]? = some (nthO l i) := by simpa using h1
    exact List.mem_of_getElem? this
  exact List.all_eq_true.1 hl _ h2
theorem OpG.wpOpIn {i : Nat} {K : Env → World → Prop} (hl : l.all (opOk n) = true) (hi : i < l.length) (h : OpG P l i K ρ w) {rd : Option Nat} {a : Act} (ha : Ag n a ρ) (Q' : Exit → Act → World → Prop) (hdk : opOk n (nthO l i) = true) :
    wpOpIn (fr rd) 9 P l.toArray Q' i (fun a' w' => ∃ ρ', Ag n a' ρ' ∧ K ρ' w') a w := by
  refine wpOpIn_step (nthO_get hi) fun K' hK' => ?_
  unfold OpG at h
  rw [wanted_yl ha]
  split
  · rename_i hw
    rw [if_pos hw] at h
    exact Oper.wpIn_mono hK' (h.wpIn ha (opOk.lt hdk) _)
  · rename_i hw
    rw [if_neg hw] at h
    exact ⟨fun f _ => fr_fn rd f, hK' _ _ ⟨_, ha.put _ (opOk.lt hdk) undef, h⟩⟩
theorem lst_set (i : Nat) (d : List Nat) : lst l.length (i :: d) = (lst l.length d).setIfInBounds i true := rfl
theorem ready_lt {i : Nat} {listed : Array Bool} (h : i ∈ Region.ready .any l.toArray listed) : i < l.length := by
  have := (mem_ready.1 h).2
  obtain ⟨o, ho, _⟩ := this
  have := (Array.getElem?_eq_some_iff.1 ho).1
  simpa using this
theorem AnyS.wpAnyIn (hl : l.all (opOk n) = true) {rd : Option Nat} : ∀ (f : Nat) (done : List Nat) (ρ : Env) (w : World) (a : Act), Ag n a ρ → AnyS P l S Q f done ρ w → wpAnyIn (fr rd) 9 P .any l.toArray (lift n Q) f (lst l.length done) a w
  | 0, done, ρ, w, a, ha, h => ⟨h.1, ρ, ha, h.2⟩
  | f + 1, done, ρ, w, a, ha, h => by
    refine ⟨fun h0 => ⟨ρ, ha, h.1 h0⟩, fun i hi => ?_⟩
    have hlt := ready_lt hi
    refine wpOpIn_mono ?_ (OpG.wpOpIn hl hlt (h.2 i hi) ha _ (opOk_nth hl hlt))
    rintro a' w' ⟨ρ', h1, _, h2⟩
    exact AnyS.wpAnyIn hl f (i :: done) ρ' w' a' h1 h2
theorem W_draw {id : Nat} (S : World → Prop) (hm : P.follows .mixedOrders = true) (hS : S w.drew) (h : WA md P n l S Q [] ρ w.drew) : W md P n (.region id l.toArray true) Q ρ w := by
  intro hc rd a _ ha
  have hl : l.all (opOk n) = true := by simpa [codeOk] using hc
  refine wpIn_region_any hm ?_
  have := AnyS.wpAnyIn hl (rd := rd) _ [] ρ w.drew a ha (h hl hS)
  simpa [lst] using this
theorem WA_done (hc : chkDone l done = true) (h : Q .normal ρ w) : WA md P n l S Q done ρ w := by
  intro _ _
  simp only [chkDone, beq_iff_eq] at hc
  cases hf : l.length - done.length with
  | zero => exact ⟨hc, h⟩
  | succ f => exact ⟨fun _ => h, by rw [hc]; simp⟩

/-! ### What is taken first -/
def YS (P : Program) (l : List Oper) (S : World → Prop) (i : Nat) (v : Value) (ρ : Env) : Prop :=
  if Region.wanted (nthO l i) (yl l.toArray ρ) = true then ∀ w', S w' → (execOp (ev ρ) (nthO l i)).run P w' = .ok (.value v) w' ∨ ∃ (f : FuncId) (vl : List Value), (execOp (ev ρ) (nthO l i)).run P w' = .ok (.enter f vl.toArray) w' ∧ Calls P f vl.toArray w' (Ret fun v' w'' => v' = v ∧ w' = w'') else v = undef
theorem YS.op {i : Nat} {v : Value} {K : Env → World → Prop} (h : YS P l S i v ρ) (hS : S w) (hk : K (upo ρ (nthO l i).dst v) w) : OpG P l i K ρ w := by
  unfold OpG
  unfold YS at h
  split
  · rename_i hw; rw [if_pos hw] at h; exact (h w hS).elim (fun h => OpR_val h hk) fun ⟨f, vl, h1, h2⟩ => OpR_ent h1 h2 fun v' w' ⟨e1, e2⟩ => by subst e1; subst e2; exact hk
  · rename_i hw; rw [if_neg hw] at h; subst h; exact hk
theorem upo_comm (ρ : Env) {d e : Option Nat} (u v : Value) (h : ∀ k, d = some k → e ≠ some k) : upo (upo ρ d u) e v = upo (upo ρ e v) d u := by
  cases d with
  | none => rfl
  | some d =>
    cases e with
    | none => rfl
    | some e =>
      have hne : d ≠ e := fun x => h d rfl (x ▸ rfl)
      refine Env.ext' (fun i => ?_) rfl
      simp only [upo]
      by_cases h1 : i = d
      · subst h1; rw [up_ne _ _ hne, up_same, up_same]
      · by_cases h2 : i = e
        · subst h2; rw [up_same, up_ne _ _ h1, up_same]
        · rw [up_ne _ _ h2, up_ne _ _ h1, up_ne _ _ h1, up_ne _ _ h2]
theorem ev_upo {d : Option Nat} {v : Value} {x : Operand} (h : ∀ k, d = some k → x ≠ .tmp k) : ev (upo ρ d v) x = ev ρ x := by
  cases d with
  | none => rfl
  | some d =>
    cases x with
    | tmp t =>
      have : t ≠ d := fun e => h d rfl (e ▸ rfl)
      exact up_ne _ _ this
    | _ => rfl
theorem exec_upo {ops : Array Oper} (o : Oper) (hs : ∀ cs b, o.op ≠ .select cs b) (d : Option Nat) (v : Value) (h : ∀ k, d = some k → k ∉ o.looksAt ops) : execOp (ev (upo ρ d v)) o = execOp (ev ρ) o :=
  execOp_congr o hs fun x hx => ev_upo fun k hk hxk => h k hk (by
    subst hxk
    exact List.mem_append_left _ (List.mem_filterMap.2 ⟨.tmp k, by simpa using hx, rfl⟩))
theorem wanted_upo {ops : Array Oper} (o : Oper) (d : Option Nat) (v : Value) (h : ∀ k, d = some k → k ∉ o.looksAt ops) : Region.wanted o (yl ops (upo ρ d v)) = Region.wanted o (yl ops ρ) := by
  cases d with
  | none => rfl
  | some d =>
    unfold Region.wanted
    cases hg : o.guard with
    | none => rfl
    | some gw =>
      obtain ⟨g, want⟩ := gw
      have hy : yl ops (upo ρ (some d) v) g = yl ops ρ g := by
        unfold yl
        cases ht : (ops[g]?).bind (·.dst) with
        | none => rfl
        | some t =>
          have hne : t ≠ d := fun e => h d rfl (by subst e; simp [Oper.looksAt, hg, ht])
          simp only [Option.bind_some, upo, up_ne _ _ hne]
      simp only [hy]
theorem OpR.put {ops : Array Oper} {o : Oper} {K : Env → World → Prop} (hs : ∀ cs b, o.op ≠ .select cs b) {d : Option Nat} {v : Value} (h1 : ∀ k, d = some k → k ∉ o.looksAt ops) (h2 : ∀ k, d = some k → o.dst ≠ some k)
    (h : OpR P o K (upo ρ d v) w) : OpR P o (fun ρ' w' => ρ' = upo ρ o.dst (ρ'.f (o.dst.getD 0)) ∧ K (upo ρ' d v) w') ρ w := by
  have key : ∀ u, upo ρ o.dst u = upo ρ o.dst ((upo ρ o.dst u).f (o.dst.getD 0)) := by
    intro u
    cases hd : o.dst with
    | none => rfl
    | some k => simp [upo, up_same]
  unfold OpR at *
  rw [exec_upo (ops := ops) o hs d v h1] at h
  generalize (execOp (Coup.ev ρ) o).run P w = r at *
  cases r with
  | ok x w' =>
    cases x with
    | value u => exact ⟨key u, by rw [upo_comm ρ u v (fun k hk e => h2 k e hk)]; exact h⟩
    | skip => exact ⟨key undef, by rw [upo_comm ρ undef v (fun k hk e => h2 k e hk)]; exact h⟩
    | enter f args => exact Calls.mono h fun e w'' ⟨u, h3, h4⟩ => ⟨u, h3, key u, by rw [upo_comm ρ u v (fun k hk e => h2 k e hk)]; exact h4⟩
    | round l f tmps x y => exact RoundIn.mono h fun e w'' ⟨u, h3, h4⟩ => ⟨u, h3, key u, by rw [upo_comm ρ u v (fun k hk e => h2 k e hk)]; exact h4⟩
    | _ => exact h.elim
  | halt x w' => exact h.elim
theorem OpG.put {i j : Nat} {K : Env → World → Prop} {v : Value} (hj : j < l.length) (hi : i < l.length) (hap : (nthO l i).apart l.toArray (nthO l j) = true) (hsel : Region.noSelect l.toArray = true)
    (hy : YS P l S i v ρ) (h : OpG P l j K (upo ρ (nthO l i).dst v) w) : OpG P l j (fun ρ' w' => YS P l S i v ρ' ∧ K (upo ρ' (nthO l i).dst v) w') ρ w := by
  obtain ⟨h1, h2, h3⟩ := Oper.apart_spec hap
  have hsj := fun cs b => Region.noSelect_spec hsel j (nthO l j) cs b (nthO_get hj)
  have hsi := fun cs b => Region.noSelect_spec hsel i (nthO l i) cs b (nthO_get hi)
  have keep : ∀ u, YS P l S i v (upo ρ (nthO l j).dst u) := by
    intro u
    unfold YS at *
    rw [wanted_upo _ _ _ h3, exec_upo (ops := l.toArray) _ hsi _ _ h3]
    exact hy
  unfold OpG at *
  rw [wanted_upo _ _ _ h1] at h
  split
  · rename_i hw
    rw [if_pos hw] at h
    refine (OpR.put (ops := l.toArray) hsj h1 h2 h).mono ?_
    rintro ρ' w' ⟨he, hk⟩
    exact ⟨by rw [he]; exact keep _, hk⟩
  · rename_i hw
    rw [if_neg hw] at h
    exact ⟨keep _, by rw [upo_comm ρ undef v (fun k hk e => h2 k e hk)]; exact h⟩
theorem ready_comm {i j : Nat} (done : List Nat) : lst l.length (i :: j :: done) = lst l.length (j :: i :: done) := by
  by_cases h : i = j
  · subst h; rfl
  · simp only [lst]; exact Array.setIfInBounds_comm _ _ (Ne.symm h)
theorem AnyS.swap : ∀ (f : Nat) (d d' : List Nat) (ρ : Env) (w : World), lst l.length d = lst l.length d' → AnyS P l S Q f d ρ w → AnyS P l S Q f d' ρ w
  | 0, d, d', ρ, w, e, h => by rw [AnyS] at h ⊢; rwa [← e]
  | f + 1, d, d', ρ, w, e, h => by
    rw [AnyS] at h ⊢
    rw [← e]
    refine ⟨h.1, fun i hi => (h.2 i hi).mono fun ρ' w' ⟨h1, h2⟩ => ⟨h1, AnyS.swap f (i :: d) (i :: d') ρ' w' (by rw [lst_set, lst_set, e]) h2⟩⟩
theorem AnyS.first {i : Nat} {v : Value} (hi : i < l.length) (hsel : Region.noSelect l.toArray = true) : ∀ (f : Nat) (done : List Nat) (ρ : Env) (w : World),
    (∀ j oj, l.toArray[j]? = some oj → j ≠ i → (lst l.length done).getD j true = false → (∀ e ∈ oj.after, Region.binds .any e = true → e.on ≠ i) → (nthO l i).apart l.toArray oj = true) →
    i ∈ Region.ready .any l.toArray (lst l.length done) → YS P l S i v ρ → S w → AnyS P l S Q f (i :: done) (upo ρ (nthO l i).dst v) w → AnyS P l S Q (f + 1) done ρ w := by
  intro f
  induction f with
  | zero =>
    intro done ρ w _ hr hy hS H
    refine ⟨fun h => (by rw [h] at hr; cases hr), fun j hj => ?_⟩
    by_cases hji : j = i
    · subst hji; exact hy.op hS ⟨hS, H⟩
    · have := ready_mono hj hji
      rw [← lst_set, H.1] at this
      cases this
  | succ f ih =>
    intro done ρ w hfree hr hy hS H
    refine ⟨fun h => (by rw [h] at hr; cases hr), fun j hj => ?_⟩
    by_cases hji : j = i
    · subst hji; exact hy.op hS ⟨hS, H⟩
    · have hjl := ready_lt hj
      have hrm := ready_mono hj hji
      rw [← lst_set] at hrm
      have h1 := H.2 j hrm
      obtain ⟨hjun, oj, hoj, hall⟩ := mem_ready.1 hj
      have hoe : oj = nthO l j := by have := nthO_get hjl; rw [this] at hoj; exact (Option.some.inj hoj).symm
      have hnot : ∀ e ∈ oj.after, Region.binds .any e = true → e.on ≠ i := fun e he hb heq => by
        have h1 := hall e he hb
        have h0 := (mem_ready.1 hr).1
        rw [heq] at h1
        rcases Nat.lt_or_ge i (lst l.length done).size with h' | h'
        · simp [h'] at h0 h1; rw [h0] at h1; cases h1
        · simp [Array.getElem?_eq_none h'] at h1
      have hap := hfree j oj hoj hji hjun hnot
      rw [hoe] at hap
      refine (OpG.put hjl hi hap hsel hy h1).mono ?_
      rintro ρ' w' ⟨h3, h4, h5⟩
      refine ⟨h4, ih (j :: done) ρ' w' ?_ ?_ h3 h4 (AnyS.swap _ _ _ _ _ (ready_comm done) h5)⟩
      · intro k ok hk hki hun hno
        refine hfree k ok hk hki ?_ hno
        rw [lst_set] at hun
        by_cases hjk : j = k
        · subst hjk; exact hjun
        · rw [getD_set_ne true hjk] at hun; exact hun
      · rw [lst_set]; exact ready_mono hr (Ne.symm hji)
theorem WA_takeY (i : Nat) (hc : chkTake l done i = true) {v : Value} (hy : YS P l S i v ρ) (h : WA md P n l S Q (i :: done) (upo ρ (nthO l i).dst v) w) : WA md P n l S Q done ρ w := by
  intro hl hS
  simp only [chkTake, Bool.and_eq_true] at hc
  obtain ⟨⟨⟨⟨h1, h2⟩, h3⟩, h4⟩, h5⟩ := hc
  have hi : i < l.length := by simpa using h1
  have hd : done.length < l.length := by simpa using h2
  obtain ⟨f, hf⟩ : ∃ f, l.length - done.length = f + 1 := ⟨l.length - done.length - 1, by omega⟩
  have hr := h hl hS
  rw [show l.length - (i :: done).length = f by simp; omega] at hr
  rw [hf]
  exact AnyS.first hi h3 f done ρ w (Region.free_spec (nthO_get hi) h4) (by simpa using h5) hy hS hr
/-- What yields its value in every world that meets S is taken first. -/
theorem WA_take (i : Nat) (hc : chkTake l done i = true) {v : Value} (hw : Region.wanted (nthO l i) (yl l.toArray ρ) = true) (hv : ∀ w', S w' → (execOp (ev ρ) (nthO l i)).run P w' = .ok (.value v) w')
    (h : WA md P n l S Q (i :: done) (upo ρ (nthO l i).dst v) w) : WA md P n l S Q done ρ w := WA_takeY i hc (by unfold YS; rw [if_pos hw]; exact fun w' hS => .inl (hv w' hS)) h
/-- A call that changes nothing is taken first. -/
theorem WA_call (i : Nat) (hc : chkTake l done i = true) {v : Value} {f : FuncId} {vl : List Value} (hw : Region.wanted (nthO l i) (yl l.toArray ρ) = true) (hr : ∀ w', (execOp (ev ρ) (nthO l i)).run P w' = .ok (.enter f vl.toArray) w')
    (hv : ∀ w', S w' → Calls P f vl.toArray w' (Ret fun v' w'' => v' = v ∧ w' = w'')) (h : WA md P n l S Q (i :: done) (upo ρ (nthO l i).dst v) w) : WA md P n l S Q done ρ w :=
  WA_takeY i hc (by unfold YS; rw [if_pos hw]; exact fun w' hS => .inr ⟨f, vl, hr w', hv w' hS⟩) h
theorem WA_skip (i : Nat) (hc : chkTake l done i = true) (hw : Region.wanted (nthO l i) (yl l.toArray ρ) = false)
    (h : WA md P n l S Q (i :: done) (upo ρ (nthO l i).dst undef) w) : WA md P n l S Q done ρ w := WA_takeY i hc (by unfold YS; rw [if_neg (by simp [hw])]) h
theorem WA_of_ops {is : List Nat} (hc : chkLoud l done is = true) (hne : is ≠ []) (h : ∀ i ∈ is, WO md P n l S Q done i ρ w) : WA md P n l S Q done ρ w := by
  intro hl hS
  simp only [chkLoud, Bool.and_eq_true, beq_iff_eq] at hc
  obtain ⟨⟨h1, h2⟩, h3⟩ := hc
  have hd : done.length < l.length := by simpa using h1
  obtain ⟨f, hf⟩ : ∃ f, l.length - done.length = f + 1 := ⟨l.length - done.length - 1, by omega⟩
  rw [hf]
  refine ⟨fun h0 => absurd (h2 ▸ h0) hne, fun i hi => ?_⟩
  rw [h2] at hi
  have := h i hi hl hS
  rw [show l.length - (i :: done).length = f by simp; omega] at this
  exact this
theorem WA_one (i : Nat) (hc : chkLoud l done [i] = true) (h : WO md P n l S Q done i ρ w) : WA md P n l S Q done ρ w :=
  WA_of_ops hc (by simp) (by simpa using h)
theorem WA_two (i j : Nat) (hc : chkLoud l done [i, j] = true) (h1 : WO md P n l S Q done i ρ w) (h2 : WO md P n l S Q done j ρ w) : WA md P n l S Q done ρ w :=
  WA_of_ops hc (by simp) (by intro x hk; simp at hk; exact hk.elim (fun e => e ▸ h1) (fun e => e ▸ h2))
theorem WA_three (i j k : Nat) (hc : chkLoud l done [i, j, k] = true) (h1 : WO md P n l S Q done i ρ w) (h2 : WO md P n l S Q done j ρ w) (h3 : WO md P n l S Q done k ρ w) : WA md P n l S Q done ρ w :=
  WA_of_ops hc (by simp) (by intro x hk; simp at hk; exact hk.elim (fun e => e ▸ h1) (fun e => e.elim (fun e => e ▸ h2) (fun e => e ▸ h3)))
theorem WO_op {i : Nat} (hi : Nat.blt i l.length = true) (hw : Region.wanted (nthO l i) (yl l.toArray ρ) = true) (h : OpR P (nthO l i) (fun ρ' w' => S w' ∧ WA md P n l S Q (i :: done) ρ' w') ρ w) : WO md P n l S Q done i ρ w := by
  intro hl hS
  unfold OpG
  rw [if_pos hw]
  exact h.mono fun ρ' w' ⟨h1, h2⟩ => ⟨h1, h2 hl h1⟩
theorem WO_val {i : Nat} (hi : Nat.blt i l.length = true) (hw : Region.wanted (nthO l i) (yl l.toArray ρ) = true) {v : Value} {w' : World} (hr : (execOp (ev ρ) (nthO l i)).run P w = .ok (.value v) w')
    (hS : S w') (h : WA md P n l S Q (i :: done) (upo ρ (nthO l i).dst v) w') : WO md P n l S Q done i ρ w := WO_op hi hw (OpR_val hr ⟨hS, h⟩)
theorem WO_skp {i : Nat} (hi : Nat.blt i l.length = true) (hw : Region.wanted (nthO l i) (yl l.toArray ρ) = true) {w' : World} (hr : (execOp (ev ρ) (nthO l i)).run P w = .ok .skip w')
    (hS : S w') (h : WA md P n l S Q (i :: done) (upo ρ (nthO l i).dst undef) w') : WO md P n l S Q done i ρ w := WO_op hi hw (OpR_skp hr ⟨hS, h⟩)
theorem WO_ent {i : Nat} (hi : Nat.blt i l.length = true) (hw : Region.wanted (nthO l i) (yl l.toArray ρ) = true) {f : FuncId} {vl : List Value} {R : Value → World → Prop} (hr : (execOp (ev ρ) (nthO l i)).run P w = .ok (.enter f vl.toArray) w)
    (hc : Calls P f vl.toArray w (Ret R)) (h : ∀ v w', R v w' → S w' ∧ WA md P n l S Q (i :: done) (upo ρ (nthO l i).dst v) w') : WO md P n l S Q done i ρ w := WO_op hi hw (OpR_ent hr hc h)
theorem WA_part (t : Nat) {p : Prop} [Decidable p] (ht : ρ.f t = .bool (decide p)) (h1 : p → WA md P n l S Q done (up ρ t (.bool true)) w) (h2 : ¬ p → WA md P n l S Q done (up ρ t (.bool false)) w) : WA md P n l S Q done ρ w := by
  by_cases hp : p
  · have := h1 hp
    rwa [show Value.bool true = ρ.f t by rw [ht]; simp [hp], up_self] at this
  · have := h2 hp
    rwa [show Value.bool false = ρ.f t by rw [ht]; simp [hp], up_self] at this
theorem WA_partb (t : Nat) {b : Bool} (ht : ρ.f t = .bool b) (h1 : b = true → WA md P n l S Q done (up ρ t (.bool true)) w) (h2 : b = false → WA md P n l S Q done (up ρ t (.bool false)) w) : WA md P n l S Q done ρ w := by
  cases b with
  | true => have := h1 rfl; rwa [← ht, up_self] at this
  | false => have := h2 rfl; rwa [← ht, up_self] at this
theorem WA_is (t : Nat) (v : Value) (ht : ρ.f t = v) (h : WA md P n l S Q done (up ρ t v) w) : WA md P n l S Q done ρ w := by
  rwa [← ht, up_self] at h
theorem WA_partn (t : Nat) {p : Prop} [Decidable p] (ht : ρ.f t = .bool (!decide p)) (h1 : ¬ p → WA md P n l S Q done (up ρ t (.bool true)) w) (h2 : p → WA md P n l S Q done (up ρ t (.bool false)) w) : WA md P n l S Q done ρ w :=
  WA_partb t ht (fun h => h1 (by simpa using h)) (fun h => h2 (by simpa using h))
theorem WA_partnb (t : Nat) {b : Bool} (ht : ρ.f t = .bool (!b)) (h1 : b = false → WA md P n l S Q done (up ρ t (.bool true)) w) (h2 : b = true → WA md P n l S Q done (up ρ t (.bool false)) w) : WA md P n l S Q done ρ w :=
  WA_partb t ht (fun h => h1 (by simpa using h)) (fun h => h2 (by simpa using h))
theorem WA_tp (t : Nat) {p : Prop} [Decidable p] (ht : ρ.f t = .bool (decide p)) (hp : p) (h : WA md P n l S Q done (up ρ t (.bool true)) w) : WA md P n l S Q done ρ w := WA_part t ht (fun _ => h) (fun h' => absurd hp h')
theorem WA_fp (t : Nat) {p : Prop} [Decidable p] (ht : ρ.f t = .bool (decide p)) (hp : ¬ p) (h : WA md P n l S Q done (up ρ t (.bool false)) w) : WA md P n l S Q done ρ w := WA_part t ht (fun h' => absurd h' hp) (fun _ => h)
theorem WA_tn (t : Nat) {p : Prop} [Decidable p] (ht : ρ.f t = .bool (!decide p)) (hp : ¬ p) (h : WA md P n l S Q done (up ρ t (.bool true)) w) : WA md P n l S Q done ρ w := WA_partn t ht (fun _ => h) (fun h' => absurd h' hp)
theorem WA_fn (t : Nat) {p : Prop} [Decidable p] (ht : ρ.f t = .bool (!decide p)) (hp : p) (h : WA md P n l S Q done (up ρ t (.bool false)) w) : WA md P n l S Q done ρ w := WA_partn t ht (fun h' => absurd hp h') (fun _ => h)
theorem WA_tb (t : Nat) {b : Bool} (ht : ρ.f t = .bool b) (hp : b = true) (h : WA md P n l S Q done (up ρ t (.bool true)) w) : WA md P n l S Q done ρ w := WA_partb t ht (fun _ => h) (fun h' => by rw [hp] at h'; cases h')
theorem WA_fb (t : Nat) {b : Bool} (ht : ρ.f t = .bool b) (hp : b = false) (h : WA md P n l S Q done (up ρ t (.bool false)) w) : WA md P n l S Q done ρ w := WA_partb t ht (fun h' => by rw [hp] at h'; cases h') (fun _ => h)
theorem WA_tnb (t : Nat) {b : Bool} (ht : ρ.f t = .bool (!b)) (hp : b = false) (h : WA md P n l S Q done (up ρ t (.bool true)) w) : WA md P n l S Q done ρ w := WA_partnb t ht (fun _ => h) (fun h' => by rw [hp] at h'; cases h')
theorem WA_fnb (t : Nat) {b : Bool} (ht : ρ.f t = .bool (!b)) (hp : b = true) (h : WA md P n l S Q done (up ρ t (.bool false)) w) : WA md P n l S Q done ρ w := WA_partnb t ht (fun h' => by rw [hp] at h'; cases h') (fun _ => h)
end
end Coup
