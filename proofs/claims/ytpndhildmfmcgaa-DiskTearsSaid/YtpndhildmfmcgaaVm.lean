/- A small machine for walks: temporaries as a function, one law for each operation; over any program. -/
import Derived.Test.YtpndhildmfmcgaaBlk
import Derived.OrdersIn
import Derived.TacticsIn
import Derived.RangeFuncNested
import Derived.RangeFuncLeaves
import Derived.RangeFuncCalls
import Derived.RangeFuncBound
namespace Coup
open Go Go.RowKit

/-- The temporaries, and the marks of loops over functions that are behind (blocks for deferred calls). -/
structure Env where
  f : Nat → Value
  ms : List Nat
instance : CoeFun Env (fun _ => Nat → Value) := ⟨Env.f⟩
theorem Env.ext' {ρ ρ' : Env} (h : ∀ i, ρ i = ρ' i) (hm : ρ.ms = ρ'.ms) : ρ = ρ' := by
  cases ρ; cases ρ'
  have := funext h
  simp only at this hm
  rw [this, hm]
def up (ρ : Env) (d : Nat) (v : Value) : Env := ⟨fun i => bif Nat.beq i d then v else ρ.f i, ρ.ms⟩
def upo (ρ : Env) : Option Nat → Value → Env
  | none, _ => ρ
  | some d, v => up ρ d v
def ev (ρ : Env) : Operand → Value
  | .tmp t => ρ.f t
  | .const v => v
  | .global g => .pointer (some ⟨g, 0, none⟩)
  | .func f => .func (.func f) #[] #[]
def nth : List Value → Nat → Value
  | [], _ => undef
  | v :: _, 0 => v
  | _ :: l, n + 1 => nth l n
def env0 (l : List Value) : Env := ⟨nth l, []⟩
/-- A mark among the deferred calls. -/
def mkD (D : Nat) : Deferred := { target := .collected D, args := #[] }

structure Ag (n : Nat) (a : Act) (ρ : Env) : Prop where
  d : a.defers = ρ.ms.map mkD
  s : a.tmps.size = n
  t : ∀ i, a.tmps.getD i undef = ρ.f i

theorem Ag.ev {n : Nat} {a : Act} {ρ : Env} (h : Ag n a ρ) : a.eval = ev ρ := by
  funext x
  cases x with
  | tmp t => exact h.t t
  | _ => rfl
theorem up_same (ρ : Env) (d : Nat) (v : Value) : (up ρ d v).f d = v := by
  have : Nat.beq d d = true := Nat.beq_refl d
  simp [up, this]
theorem up_ne (ρ : Env) {d i : Nat} (v : Value) (h : i ≠ d) : (up ρ d v).f i = ρ.f i := by
  have : Nat.beq i d = false := by rw [Bool.eq_false_iff]; intro e; exact h (Nat.eq_of_beq_eq_true e)
  simp [up, this]
theorem up_ms (ρ : Env) (d : Nat) (v : Value) : (up ρ d v).ms = ρ.ms := rfl
theorem upo_ms (ρ : Env) (d : Option Nat) (v : Value) : (upo ρ d v).ms = ρ.ms := by cases d <;> rfl
theorem Ag.put {n : Nat} {a : Act} {ρ : Env} (h : Ag n a ρ) (d : Option Nat) (hd : ∀ k, d = some k → k < n) (v : Value) : Ag n (a.put d v) (upo ρ d v) := by
  cases d with
  | none => exact h
  | some k =>
    refine ⟨h.d, by simp [Act.put, h.s], fun i => ?_⟩
    have hk := hd k rfl
    by_cases e : i = k
    · subst e; simp [Act.put, upo, up_same, h.s, hk]
    · have := h.t i
      simp only [upo, up_ne ρ v e, ← this]
      simp [Act.put, Array.getElem?_setIfInBounds_ne (Ne.symm e)]

/-! ### Codes whose temporaries lie in the frame -/
def opOk (n : Nat) (o : Oper) : Bool := match o.dst with | some d => Nat.blt d n | none => true
def codeOk (n : Nat) : Code → Bool
  | .region _ ops _ => ops.all (opOk n)
  | .seq a b => codeOk n a && codeOk n b
  | .cond _ a b => codeOk n a && codeOk n b
  | .block _ a => codeOk n a
  | .loop a => codeOk n a
  | .scope a => codeOk n a
  | .rangeFunc _ _ a b => codeOk n a && codeOk n b
  | _ => true
theorem opOk.lt {n : Nat} {o : Oper} (h : opOk n o = true) : ∀ k, o.dst = some k → k < n := by
  intro k hk
  simp only [opOk, hk] at h
  simpa [Nat.blt_eq] using h

/-- The mode of a walk: an activation of a function, or a round of a loop over a function. -/
def fr : Option Nat → Fence
  | none => Fence.wide
  | some l => Fence.wide.inRound l
theorem fr_round (rd : Option Nat) : (fr rd).round = rd := by cases rd <;> rfl
theorem fr_fn (rd : Option Nat) (f : FuncId) : (fr rd).fn f := by cases rd <;> exact trivial
theorem fr_depth (rd : Option Nat) : (fr rd).depth = none := by cases rd <;> rfl
theorem fr_calls {rd : Option Nat} {m : Nat} {P : Program} {f : FuncId} {args : Array Value} {w : World} {R : Ending → World → Prop} (h : Calls P f args w R) : CallsIn (fr rd) m P f args w R := by
  have := (callsIn_wide (n := m)).2 h
  cases rd with
  | none => exact this
  | some l => exact this.inRound l
theorem fr_roundIn {rd : Option Nat} {m : Nat} {P : Program} {l : Nat} {f : FuncId} {tmps : Array Value} {x y : Code} {w : World} {R : Ending → World → Prop} (h : RoundIn Fence.wide 0 P l f tmps x y w R) : RoundIn (fr rd) m P l f tmps x y w R := by
  cases rd with
  | none => exact ⟨trivial, fun c cs _ => h.2 c cs (room_wide _)⟩
  | some l' => exact ⟨trivial, fun c cs _ => h.2 c cs (room_wide _)⟩

def Post := Exit → Env → World → Prop
def lift (n : Nat) (Q : Post) : Exit → Act → World → Prop := fun e a w => ∃ ρ, Ag n a ρ ∧ Q e ρ w
def W (md : Option Nat → Prop) (P : Program) (n : Nat) (c : Code) (Q : Post) (ρ : Env) (w : World) : Prop :=
  codeOk n c = true → ∀ (rd : Option Nat) (a : Act), md rd → Ag n a ρ → c.wpIn (fr rd) 9 P (lift n Q) a w
def WR (md : Option Nat → Prop) (P : Program) (n : Nat) (ops : Array Oper) (l : List Oper) (Q : Post) (ρ : Env) (w : World) : Prop :=
  l.all (opOk n) = true → ∀ (rd : Option Nat) (a : Act), md rd → Ag n a ρ → wpListIn (fr rd) 9 P ops (lift n Q) l a w
/-- What an operation comes to, in either mode. -/
def OpR (P : Program) (o : Oper) (K : Env → World → Prop) (ρ : Env) (w : World) : Prop :=
  match (execOp (ev ρ) o).run P w with
  | .ok (.value v) w' => K (upo ρ o.dst v) w'
  | .ok .skip w' => K (upo ρ o.dst undef) w'
  | .ok (.enter f args) w' => Calls P f args w' fun e w'' => ∃ v, e = .returned v ∧ K (upo ρ o.dst v) w''
  | .ok (.round l f tmps x y) w' => RoundIn Fence.wide 0 P l f tmps x y w' fun e w'' => ∃ v, e = .returned v ∧ K (upo ρ o.dst v) w''
  | _ => False

def thenQ (md : Option Nat → Prop) (P : Program) (n : Nat) (y : Code) (Q : Post) : Post
  | .normal, ρ, w => W md P n y Q ρ w
  | e, ρ, w => Q e ρ w
def blockQ (id : Nat) (Q : Post) : Post
  | .exit i, ρ, w => if i = id then Q .normal ρ w else Q (.exit i) ρ w
  | e, ρ, w => Q e ρ w
def loopQ (I : Env → World → Prop) (Q : Post) : Post
  | .normal, ρ, w => I ρ w
  | e, ρ, w => Q e ρ w
def Sl (ρ : Env) : List (Nat × Value) → Prop
  | [] => ρ.ms = []
  | p :: l => ρ.f p.1 = p.2 ∧ Sl ρ l
def ups (ρ : Env) : List (Nat × Value) → Env
  | [] => ρ
  | p :: l => up (ups ρ l) p.1 p.2
theorem up_self (ρ : Env) (d : Nat) : up ρ d (ρ.f d) = ρ := by
  refine Env.ext' (fun i => ?_) rfl
  by_cases h : i = d
  · subst h; rw [up_same]
  · rw [up_ne _ _ h]
theorem Sl.env {ρ : Env} : ∀ {l : List (Nat × Value)}, Sl ρ l → ρ = ups ⟨ρ.f, []⟩ l
  | [], h => Env.ext' (fun _ => rfl) h
  | p :: l, h => by
    have := Sl.env h.2
    show ρ = up (ups ⟨ρ.f, []⟩ l) p.1 p.2
    rw [← this, ← h.1, up_self]

theorem wpIn_loop_gh {F : Fence} {n : Nat} {P : Program} {Q : Exit → Act → World → Prop} {c : Code} {α : Type} (I : α → Act → World → Prop) (m : α → Nat) {a : Act} {w : World} (k0 : α) (h₀ : I k0 a w)
    (round : ∀ k a w, I k a w → c.wpIn F n P (Exit.then (fun a' w' => ∃ k', m k' < m k ∧ I k' a' w') Q) a w) : (Code.loop c).wpIn F n P Q a w := by
  have ex : ∀ a w, (∃ k, I k a w) → ∃ v, (∃ k, I k a w ∧ m k = v) ∧ ∀ k, I k a w → v ≤ m k := by
    intro a w ⟨k, hk⟩
    have key : ∀ N k, I k a w → m k = N → ∃ v, (∃ k, I k a w ∧ m k = v) ∧ ∀ k, I k a w → v ≤ m k := by
      intro N
      induction N using Nat.strongRecOn with
      | _ N ih =>
        intro k hk hm
        by_cases hx : ∃ k', I k' a w ∧ m k' < N
        · obtain ⟨k', h1, h2⟩ := hx
          exact ih (m k') h2 k' h1 rfl
        · exact ⟨N, ⟨k, hk, hm⟩, fun k' hk' => Nat.not_lt.1 fun hlt => hx ⟨k', hk', hlt⟩⟩
    exact key _ k hk rfl
  let μ : Act → World → Nat := fun a w => by
    classical
    exact if h : ∃ k, I k a w then Classical.choose (ex a w h) else 0
  have hle : ∀ a w k, I k a w → μ a w ≤ m k := by
    intro a w k h
    classical
    have hx : ∃ k, I k a w := ⟨k, h⟩
    show (if h : ∃ k, I k a w then Classical.choose (ex a w h) else 0) ≤ m k
    rw [dif_pos hx]
    exact (Classical.choose_spec (ex a w hx)).2 k h
  have hmin : ∀ a w, (∃ k, I k a w) → ∃ k, I k a w ∧ m k = μ a w := by
    intro a w h
    classical
    show ∃ k, I k a w ∧ m k = (if h : ∃ k, I k a w then Classical.choose (ex a w h) else 0)
    rw [dif_pos h]
    exact (Classical.choose_spec (ex a w h)).1
  refine wpIn_loop (fun a w => ∃ k, I k a w) μ ⟨k0, h₀⟩ fun a w hI => ?_
  obtain ⟨k, hk, hm⟩ := hmin a w hI
  refine Code.wpIn_mono ?_ (round k a w hk)
  intro e a' w' h
  cases e with
  | normal =>
    obtain ⟨k', hlt, hk'⟩ := h
    exact ⟨⟨k', hk'⟩, Nat.lt_of_le_of_lt (hle a' w' k' hk') (hm ▸ hlt)⟩
  | _ => exact h

section
variable {md : Option Nat → Prop} {P : Program} {n : Nat} {Q : Post} {ρ : Env} {w : World}

theorem W_mono {c : Code} {Q' : Post} (h : W md P n c Q ρ w) (hq : ∀ e ρ w, Q e ρ w → Q' e ρ w) : W md P n c Q' ρ w :=
  fun hc rd a hmd ha => wpIn_mono (h hc rd a hmd ha) fun _ _ _ ⟨ρ', h1, h2⟩ => ⟨ρ', h1, hq _ _ _ h2⟩
theorem W_seq {x y : Code} (h : W md P n x (thenQ md P n y Q) ρ w) : W md P n (.seq x y) Q ρ w := by
  intro hc rd a hmd ha
  simp only [codeOk, Bool.and_eq_true] at hc
  refine wpIn_seq (wpIn_mono (h hc.1 rd a hmd ha) ?_)
  rintro e a' w' ⟨ρ', h1, h2⟩
  cases e with
  | normal => exact h2 hc.2 rd a' hmd h1
  | _ => exact ⟨ρ', h1, h2⟩
theorem W_skip (h : Q .normal ρ w) : W md P n .skip Q ρ w := fun _ _ _ _ ha => wpIn_skip ⟨_, ha, h⟩
theorem W_ret (h : Q .ret ρ w) : W md P n .ret Q ρ w := fun _ _ _ _ ha => wpIn_ret ⟨_, ha, h⟩
theorem W_exit {id : Nat} (h : Q (.exit id) ρ w) : W md P n (.exit id) Q ρ w := fun _ _ _ _ ha => wpIn_exit ⟨_, ha, h⟩
theorem thenN {y : Code} (h : W md P n y Q ρ w) : thenQ md P n y Q .normal ρ w := h
theorem thenX {y : Code} {i : Nat} (h : Q (.exit i) ρ w) : thenQ md P n y Q (.exit i) ρ w := h
theorem thenR {y : Code} (h : Q .ret ρ w) : thenQ md P n y Q .ret ρ w := h
theorem blockN {id : Nat} (h : Q .normal ρ w) : blockQ id Q .normal ρ w := h
theorem blockR {id : Nat} (h : Q .ret ρ w) : blockQ id Q .ret ρ w := h
theorem blockX {id : Nat} (h : Q .normal ρ w) : blockQ id Q (.exit id) ρ w := by simpa [blockQ] using h
theorem blockO {id i : Nat} (hne : Nat.beq i id = false) (h : Q (.exit i) ρ w) : blockQ id Q (.exit i) ρ w := by
  have : i ≠ id := fun e => by subst e; simp at hne
  simpa [blockQ, this] using h
theorem loopN {I : Env → World → Prop} (h : I ρ w) : loopQ I Q .normal ρ w := h
theorem loopX {I : Env → World → Prop} {i : Nat} (h : Q (.exit i) ρ w) : loopQ I Q (.exit i) ρ w := h
theorem loopR {I : Env → World → Prop} (h : Q .ret ρ w) : loopQ I Q .ret ρ w := h
theorem W_block {id : Nat} {c : Code} (h : W md P n c (blockQ id Q) ρ w) : W md P n (.block id c) Q ρ w := by
  intro hc rd a hmd ha
  refine wpIn_block (wpIn_mono (h hc rd a hmd ha) ?_)
  rintro e a' w' ⟨ρ', h1, h2⟩
  cases e with
  | exit i =>
    by_cases hi : i = id
    · simp only [blockQ, hi, if_true] at h2
      simp only [Exit.inBlock, hi, if_true]
      exact ⟨ρ', h1, h2⟩
    · simp only [blockQ, hi, if_false] at h2
      simp only [Exit.inBlock, hi, if_false]
      exact ⟨ρ', h1, h2⟩
  | _ => exact ⟨ρ', h1, h2⟩
/-- A loop: L tells the slots that the loop reads or that are read behind it, I all else; m goes down. -/
theorem W_loop {c : Code} {α : Type} (k0 : α) (L : α → List (Nat × Value)) (I : α → World → Prop) (m : α → Nat) (hs : Sl ρ (L k0)) (hI : I k0 w)
    (round : ∀ k (f : Nat → Value) w', I k w' → W md P n c (loopQ (fun ρ'' w'' => ∃ k', m k' < m k ∧ Sl ρ'' (L k') ∧ I k' w'') Q) (ups ⟨f, []⟩ (L k)) w') : W md P n (.loop c) Q ρ w := by
  intro hc rd a hmd ha
  refine wpIn_loop_gh (fun k a2 w2 => ∃ ρ2, Ag n a2 ρ2 ∧ Sl ρ2 (L k) ∧ I k w2) m k0 ⟨ρ, ha, hs, hI⟩ ?_
  rintro k a2 w2 ⟨ρ2, h2, hs2, hI2⟩
  have he := Sl.env hs2
  have := round k ρ2.f w2 hI2 hc rd a2 hmd (by rw [← he]; exact h2)
  refine wpIn_mono this ?_
  rintro e a3 w3 ⟨ρ3, h3, hq⟩
  cases e with
  | normal =>
    obtain ⟨k', hlt, hs3, hI3⟩ := hq
    exact ⟨k', hlt, ρ3, h3, hs3, hI3⟩
  | _ => exact ⟨ρ3, h3, hq⟩

/-! ### Entering a function, and leaving it -/
def resV (P : Program) (w : World) (ρ : Env) : List ResultVar → List Value → Prop
  | [], [] => True
  | .tmp t :: rs, v :: vs => ρ.f t = v ∧ resV P w ρ rs vs
  | .cell a t :: rs, v :: vs => (∃ ad, ρ.f a = .pointer (some ad) ∧ (loadVar t ad).run P w = .ok v w) ∧ resV P w ρ rs vs
  | _, _ => False
def pack : List Value → Value
  | [v] => v
  | vs => .tuple vs.toArray
def Ret (R : Value → World → Prop) : Ending → World → Prop := fun e w => ∃ v, e = .returned v ∧ R v w
/-- A function is left: the marks' blocks are shut, the results read. -/
def leaveV (P : Program) (rs : List ResultVar) (R : Value → World → Prop) (ρ : Env) : List Nat → World → Prop
  | [], w => ∃ vs, resV P w ρ rs vs ∧ R (pack vs) w
  | D :: ms, w => w.heap[D]? = some (.deferred (some [])) ∧ leaveV P rs R ρ ms (w.putObj D (.deferred none))
def retQ (P : Program) (rs : List ResultVar) (R : Value → World → Prop) : Post
  | .normal, ρ, w => leaveV P rs R ρ ρ.ms w
  | .ret, ρ, w => leaveV P rs R ρ ρ.ms w
  | _, _, _ => False
def rstep (tmps : Array Value) : ResultVar → Sem Value
  | .tmp t => pure (tmps.getD t undef)
  | .cell a t => do loadVar t (← asAddr (tmps.getD a undef))
theorem rstep_run {tmps : Array Value} (ht : ∀ i, tmps.getD i undef = ρ.f i) {r : ResultVar} {rs : List ResultVar} {v : Value} {vs : List Value} (h : resV P w ρ (r :: rs) (v :: vs)) :
    (rstep tmps r).run P w = .ok v w ∧ resV P w ρ rs vs := by
  cases r with
  | tmp t => exact ⟨by simp only [rstep, ht, h.1]; rfl, h.2⟩
  | cell a t =>
    obtain ⟨⟨ad, h1, h2⟩, h3⟩ := h
    refine ⟨?_, h3⟩
    simp only [rstep, ht, h1, asAddr, Sem.run_bind, Sem.run_pure, Result.andThen_ok, h2]
theorem resV_run {tmps : Array Value} (ht : ∀ i, tmps.getD i undef = ρ.f i) : ∀ (rs : List ResultVar) (vs : List Value), resV P w ρ rs vs → (rs.mapM (rstep tmps)).run P w = .ok vs w
  | [], [], _ => rfl
  | [], _ :: _, h => h.elim
  | .tmp t :: rs, [], h => h.elim
  | .cell a t :: rs, [], h => h.elim
  | r :: rs, v :: vs, h => by
    obtain ⟨h1, h2⟩ := rstep_run ht h
    have ih := resV_run ht rs vs h2
    rw [List.mapM_cons]
    simp only [Sem.run_bind, h1, Result.andThen_ok, ih, Sem.run_pure]
theorem results_eq (fn : Func) (tmps : Array Value) : results fn tmps = (do let vs ← fn.results.mapM (rstep tmps); pure (if h : vs.size = 1 then vs[0] else .tuple vs)) := by
  have : (fun r => (match r with | .tmp t => pure (tmps.getD t undef) | .cell a t => (do loadVar t (← asAddr (tmps.getD a undef))) : Sem Value)) = rstep tmps := by
    funext r; cases r <;> rfl
  unfold results
  rw [← this]
  rfl
theorem results_resV {fn : Func} {rs : List ResultVar} (hr : fn.results = rs.toArray) {tmps : Array Value} (ht : ∀ i, tmps.getD i undef = ρ.f i) {vs : List Value} (h : resV P w ρ rs vs) :
    (results fn tmps).run P w = .ok (pack vs) w := by
  have h1 := resV_run (P := P) (w := w) ht rs vs h
  have h2 : (fn.results.mapM (rstep tmps)).run P w = .ok vs.toArray w := by
    rw [hr, List.mapM_toArray]
    simp only [map_eq_pure_bind, Sem.run_bind, h1, Result.andThen_ok, Sem.run_pure]
  rw [results_eq, Sem.run_bind, h2]
  simp only [Result.andThen_ok, Sem.run_pure]
  congr 1
  match vs with
  | [] => rfl
  | [v] => rfl
  | _ :: _ :: _ => rfl
theorem calls_W {f : FuncId} {fn : Func} {c : Code} {rs : List ResultVar} {args : List Value} {R : Value → World → Prop}
    (hf : P.funcs[f]? = some fn) (hb : fn.body = some c) (hr : fn.results = rs.toArray) (hn : fn.ntmps = n) (hok : codeOk n c = true) (hl : Nat.ble args.length n = true)
    (h : W (fun rd => rd = none) P n c (retQ P rs R) (env0 args) w) : Calls P f args.toArray w (Ret R) := by
  have hl' : args.length ≤ n := Nat.le_of_ble_eq_true hl
  refine (callsIn_wide (n := 9)).1 (callsIn_of_wp_marks hf hb trivial ?_ rfl)
  have ha : Ag n { tmps := args.toArray ++ Array.replicate (fn.ntmps - args.toArray.size) undef, defers := [] } (env0 args) := by
    refine ⟨rfl, by simp [hn]; omega, fun i => ?_⟩
    have key : ∀ (l : List Value) (i : Nat), nth l i = l.getD i undef := by
      intro l
      induction l with
      | nil => intro i; rfl
      | cons v l ih => intro i; cases i with
        | zero => rfl
        | succ i => simpa [nth] using ih i
    show _ = nth args i
    rw [key]
    simp only [Array.getD_eq_getD_getElem?, List.getD_eq_getElem?_getD]
    by_cases hi : i < args.length
    · simp [Array.getElem?_append, hi]
    · simp only [Array.getElem?_append, List.size_toArray, hi, if_false, List.getElem?_eq_none (Nat.not_lt.1 hi), Option.getD_none, Array.getElem?_replicate]
      split <;> rfl
  refine wpIn_mono (h hok none _ rfl ha) ?_
  rintro e a' w' ⟨ρ', h1, h2⟩
  have key : ∀ (ms : List Nat) (w : World), leaveV P rs R ρ' ms w → LeavesInM Fence.wide 9 P fn a'.tmps (Ret R) (ms.map mkD) .returning w := by
    intro ms
    induction ms with
    | nil =>
      intro w ⟨vs, h3, h4⟩
      exact ⟨_, results_resV hr h1.t h3, _, rfl, h4⟩
    | cons D ms ih =>
      intro w ⟨h3, h4⟩
      exact ⟨by simp, .inl ⟨D, _, rfl, run_takeDeferred h3, ih _ h4⟩⟩
  cases e with
  | normal => show LeavesInM _ _ _ _ _ _ a'.defers _ _; rw [h1.d]; exact key _ _ h2
  | ret => show LeavesInM _ _ _ _ _ _ a'.defers _ _; rw [h1.d]; exact key _ _ h2
  | exit i => exact h2.elim
  | goto l => exact h2.elim
  | panic c => exact h2.elim
  | outgrown => exact h2.elim
theorem ret_normal {rs : List ResultVar} {R : Value → World → Prop} (vs : List Value) (h : resV P w ρ rs vs) (hR : R (pack vs) w) (hm : ρ.ms = [] := by rfl) : retQ P rs R .normal ρ w := by
  show leaveV P rs R ρ ρ.ms w
  rw [hm]; exact ⟨vs, h, hR⟩
theorem ret_ret {rs : List ResultVar} {R : Value → World → Prop} (vs : List Value) (h : resV P w ρ rs vs) (hR : R (pack vs) w) (hm : ρ.ms = [] := by rfl) : retQ P rs R .ret ρ w := by
  show leaveV P rs R ρ ρ.ms w
  rw [hm]; exact ⟨vs, h, hR⟩
theorem ret_mark {rs : List ResultVar} {R : Value → World → Prop} (vs : List Value) (D : Nat) (hD : w.heap[D]? = some (.deferred (some []))) (h : resV P (w.putObj D (.deferred none)) ρ rs vs) (hR : R (pack vs) (w.putObj D (.deferred none))) (hm : ρ.ms = [D] := by rfl) : retQ P rs R .ret ρ w := by
  show leaveV P rs R ρ ρ.ms w
  rw [hm]; exact ⟨hD, vs, h, hR⟩

/-! ### Branches -/
theorem W_if {c : Operand} {x y : Code} {b : Bool} (hc : ev ρ c = .bool b) (h1 : b = true → W md P n x Q ρ w) (h2 : b = false → W md P n y Q ρ w) : W md P n (.cond c x y) Q ρ w := by
  intro hk rd a hmd ha
  simp only [codeOk, Bool.and_eq_true] at hk
  have hc' : a.eval c = .bool b := by rw [ha.ev]; exact hc
  cases b with
  | true => exact wpIn_cond_true hc' (h1 rfl hk.1 rd a hmd ha)
  | false => exact wpIn_cond_false hc' (h2 rfl hk.2 rd a hmd ha)
theorem W_ifp {c : Operand} {x y : Code} {p : Prop} [Decidable p] (hc : ev ρ c = .bool (decide p)) (h1 : p → W md P n x Q ρ w) (h2 : ¬ p → W md P n y Q ρ w) : W md P n (.cond c x y) Q ρ w :=
  W_if hc (fun h => h1 (of_decide_eq_true h)) (fun h => h2 (of_decide_eq_false h))
theorem W_ifn {c : Operand} {x y : Code} {p : Prop} [Decidable p] (hc : ev ρ c = .bool (!decide p)) (h1 : ¬ p → W md P n x Q ρ w) (h2 : p → W md P n y Q ρ w) : W md P n (.cond c x y) Q ρ w :=
  W_if hc (fun h => h1 (by simpa using h)) (fun h => h2 (by simpa using h))
theorem W_t {c : Operand} {x y : Code} (hc : ev ρ c = .bool true) (h : W md P n x Q ρ w) : W md P n (.cond c x y) Q ρ w := W_if hc (fun _ => h) (fun h => by cases h)
theorem W_f {c : Operand} {x y : Code} (hc : ev ρ c = .bool false) (h : W md P n y Q ρ w) : W md P n (.cond c x y) Q ρ w := W_if hc (fun h => by cases h) (fun _ => h)
theorem W_tp {c : Operand} {x y : Code} {p : Prop} [Decidable p] (hc : ev ρ c = .bool (decide p)) (hp : p) (h : W md P n x Q ρ w) : W md P n (.cond c x y) Q ρ w := W_ifp hc (fun _ => h) (fun h' => absurd hp h')
theorem W_fp {c : Operand} {x y : Code} {p : Prop} [Decidable p] (hc : ev ρ c = .bool (decide p)) (hp : ¬ p) (h : W md P n y Q ρ w) : W md P n (.cond c x y) Q ρ w := W_ifp hc (fun h' => absurd h' hp) (fun _ => h)

theorem W_tn {c : Operand} {x y : Code} {p : Prop} [Decidable p] (hc : ev ρ c = .bool (!decide p)) (hp : ¬ p) (h : W md P n x Q ρ w) : W md P n (.cond c x y) Q ρ w := W_ifn hc (fun _ => h) (fun h' => absurd h' hp)
theorem W_fn {c : Operand} {x y : Code} {p : Prop} [Decidable p] (hc : ev ρ c = .bool (!decide p)) (hp : p) (h : W md P n y Q ρ w) : W md P n (.cond c x y) Q ρ w := W_ifn hc (fun h' => absurd hp h') (fun _ => h)
theorem W_tb {c : Operand} {x y : Code} {b : Bool} (hc : ev ρ c = .bool b) (hp : b = true) (h : W md P n x Q ρ w) : W md P n (.cond c x y) Q ρ w := W_if hc (fun _ => h) (fun h' => by rw [hp] at h'; cases h')
theorem W_fb {c : Operand} {x y : Code} {b : Bool} (hc : ev ρ c = .bool b) (hp : b = false) (h : W md P n y Q ρ w) : W md P n (.cond c x y) Q ρ w := W_if hc (fun h' => by rw [hp] at h'; cases h') (fun _ => h)
theorem W_tnb {c : Operand} {x y : Code} {b : Bool} (hc : ev ρ c = .bool (!b)) (hp : b = false) (h : W md P n x Q ρ w) : W md P n (.cond c x y) Q ρ w := W_tb hc (by rw [hp]; rfl) h
theorem W_fnb {c : Operand} {x y : Code} {b : Bool} (hc : ev ρ c = .bool (!b)) (hp : b = true) (h : W md P n y Q ρ w) : W md P n (.cond c x y) Q ρ w := W_fb hc (by rw [hp]; rfl) h
theorem W_ifnb {c : Operand} {x y : Code} {b : Bool} (hc : ev ρ c = .bool (!b)) (h1 : b = false → W md P n x Q ρ w) (h2 : b = true → W md P n y Q ρ w) : W md P n (.cond c x y) Q ρ w := W_if hc (fun h => h1 (by simpa using h)) (fun h => h2 (by simpa using h))

/-! ### Cuts: what stands behind a piece of code is shown once. -/
theorem W_cut {c y : Code} {α : Type} (L : α → List (Nat × Value)) (I : α → World → Prop)
    (h1 : W md P n c (loopQ (fun ρ' w' => ∃ k, Sl ρ' (L k) ∧ I k w') Q) ρ w) (h2 : ∀ k (f : Nat → Value) w', I k w' → W md P n y Q (ups ⟨f, []⟩ (L k)) w') : W md P n (.seq c y) Q ρ w := by
  refine W_seq (W_mono h1 ?_)
  rintro e ρ' w' h
  cases e with
  | normal =>
    obtain ⟨k, hs, hI⟩ := h
    have := h2 k ρ'.f w' hI
    rw [← Sl.env hs] at this
    exact this
  | _ => exact h

/-! ### Regions in the text's order -/
theorem OpR.wpIn {o : Oper} {K : Env → World → Prop} (h : OpR P o K ρ w) {rd : Option Nat} {a : Act} (ha : Ag n a ρ) (hd : ∀ k, o.dst = some k → k < n) (Q' : Exit → Act → World → Prop) :
    o.wpIn (fr rd) 9 P a w (fun a' w' => ∃ ρ', Ag n a' ρ' ∧ K ρ' w') Q' := by
  refine ⟨fun f _ => fr_fn rd f, ?_⟩
  have hnd : ∀ c, o.op ≠ .defer c := by
    intro c hc
    unfold OpR at h
    have hx : (execOp (Coup.ev ρ) o).run P w = ((do pure (.defer (← resolve (Coup.ev ρ) c o.type))) : Sem Next).run P w := by simp only [execOp, hc]
    rw [hx] at h
    simp only [Sem.run_bind] at h
    cases hr : (resolve (Coup.ev ρ) c o.type).run P w with
    | ok d w' => rw [hr] at h; exact h
    | halt x w' => rw [hr] at h; exact h
  rw [Oper.semAt_eq _ _ _ hnd, ha.ev]
  unfold OpR at h
  split at h
  · rename_i v w' hr
    rw [hr]; exact ⟨_, ha.put o.dst hd v, h⟩
  · rename_i w' hr
    rw [hr]; exact ⟨_, ha.put o.dst hd undef, h⟩
  · rename_i f args w' hr
    rw [hr, Oper.uponIn_enter]
    refine ⟨(fun hdp => by rw [fr_depth] at hdp; cases hdp), fr_calls (h.mono ?_)⟩
    rintro e w'' ⟨v, rfl, hk⟩
    exact ⟨_, ha.put o.dst hd v, hk⟩
  · rename_i l f tmps x y w' hr
    rw [hr, Oper.uponIn_round]
    refine ⟨(fun hdp => by rw [fr_depth] at hdp; cases hdp), fr_roundIn (h.mono ?_)⟩
    rintro e w'' ⟨v, rfl, hk⟩
    exact ⟨_, ha.put o.dst hd v, hk⟩
  · exact h.elim
theorem OpR.mono {o : Oper} {K K' : Env → World → Prop} (h : OpR P o K ρ w) (hk : ∀ ρ w, K ρ w → K' ρ w) : OpR P o K' ρ w := by
  unfold OpR at *
  generalize (execOp (Coup.ev ρ) o).run P w = r at *
  cases r with
  | ok x w' =>
    cases x with
    | value v => exact hk _ _ h
    | skip => exact hk _ _ h
    | enter f args => exact Calls.mono h fun e w'' ⟨v, h1, h2⟩ => ⟨v, h1, hk _ _ h2⟩
    | round l f tmps x y => exact RoundIn.mono h fun e w'' ⟨v, h1, h2⟩ => ⟨v, h1, hk _ _ h2⟩
    | _ => exact h.elim
  | halt x w' => exact h.elim
theorem OpR_val {o : Oper} {K : Env → World → Prop} {v : Value} {w' : World} (hr : (execOp (ev ρ) o).run P w = .ok (.value v) w') (h : K (upo ρ o.dst v) w') : OpR P o K ρ w := by unfold OpR; rw [hr]; exact h
theorem OpR_skp {o : Oper} {K : Env → World → Prop} {w' : World} (hr : (execOp (ev ρ) o).run P w = .ok .skip w') (h : K (upo ρ o.dst undef) w') : OpR P o K ρ w := by unfold OpR; rw [hr]; exact h
theorem OpR_ent {o : Oper} {K : Env → World → Prop} {f : FuncId} {vl : List Value} {R : Value → World → Prop} (hr : (execOp (ev ρ) o).run P w = .ok (.enter f vl.toArray) w)
    (hc : Calls P f vl.toArray w (Ret R)) (h : ∀ v w', R v w' → K (upo ρ o.dst v) w') : OpR P o K ρ w := by
  unfold OpR; rw [hr]
  exact hc.mono fun e w' ⟨v, h1, h2⟩ => ⟨v, h1, h v w' h2⟩
theorem W_region {id : Nat} {l : List Oper} (h : WR md P n l.toArray l Q ρ w) : W md P n (.region id l.toArray false) Q ρ w := by
  intro hc rd a hmd ha
  have : l.all (opOk n) = true := by simpa [codeOk] using hc
  exact wpIn_region_lit (h this rd a hmd ha)
theorem WR_nil {ops : Array Oper} (h : Q .normal ρ w) : WR md P n ops [] Q ρ w := fun _ _ _ _ ha => ⟨_, ha, h⟩
theorem WR_op {ops : Array Oper} {rest : List Oper} {o : Oper} (hg : o.guard = none) (h : OpR P o (WR md P n ops rest Q) ρ w) : WR md P n ops (o :: rest) Q ρ w := by
  intro hl rd a hmd ha
  simp only [List.all_cons, Bool.and_eq_true] at hl
  refine wpListIn_plain hg fun K' hK' => ?_
  refine Oper.wpIn_mono ?_ (h.wpIn ha (opOk.lt hl.1) _)
  rintro a' w' ⟨ρ', h1, h2⟩
  exact hK' a' w' (h2 hl.2 rd a' hmd h1)
theorem WR_val {ops : Array Oper} {rest : List Oper} {o : Oper} (hg : o.guard = none) {v : Value} {w' : World} (hr : (execOp (ev ρ) o).run P w = .ok (.value v) w') (h : WR md P n ops rest Q (upo ρ o.dst v) w') : WR md P n ops (o :: rest) Q ρ w := WR_op hg (OpR_val hr h)
theorem WR_skp {ops : Array Oper} {rest : List Oper} {o : Oper} (hg : o.guard = none) {w' : World} (hr : (execOp (ev ρ) o).run P w = .ok .skip w') (h : WR md P n ops rest Q (upo ρ o.dst undef) w') : WR md P n ops (o :: rest) Q ρ w := WR_op hg (OpR_skp hr h)
theorem WR_ent {ops : Array Oper} {rest : List Oper} {o : Oper} (hg : o.guard = none) {f : FuncId} {vl : List Value} {R : Value → World → Prop} (hr : (execOp (ev ρ) o).run P w = .ok (.enter f vl.toArray) w)
    (hc : Calls P f vl.toArray w (Ret R)) (h : ∀ v w', R v w' → WR md P n ops rest Q (upo ρ o.dst v) w') : WR md P n ops (o :: rest) Q ρ w := WR_op hg (OpR_ent hr hc h)
/-! Guards -/
def yl (ops : Array Oper) (ρ : Env) (j : Nat) : Option Bool := ((ops[j]?).bind (·.dst)).bind fun t => match ρ.f t with | .bool b => some b | _ => none
theorem Ag.yl {a : Act} (h : Ag n a ρ) (ops : Array Oper) (j : Nat) : yielded ops a.tmps j = Coup.yl ops ρ j := by
  unfold yielded Coup.yl
  cases ht : (ops[j]?).bind (·.dst) with
  | none => rfl
  | some t =>
    have := h.t t
    rw [Array.getD_eq_getD_getElem?] at this
    simp only [Option.bind_some]
    rw [← this]
    cases hx : a.tmps[t]? with
    | none => rfl
    | some v => cases v <;> rfl
theorem WR_no {ops : Array Oper} {rest : List Oper} {d : Option Nat} {op : Op} {ty : TypeId} {pos : String} {af : Array Edge} {j : Nat} {b b' : Bool} (hy : yl ops ρ j = some b') (hb : (b' == b) = false) (h : WR md P n ops rest Q (upo ρ d undef) w) :
    WR md P n ops (⟨d, op, ty, pos, af, some (j, b)⟩ :: rest) Q ρ w := by
  intro hl rd a hmd ha
  simp only [List.all_cons, Bool.and_eq_true] at hl
  have hw : Region.wanted ⟨d, op, ty, pos, af, some (j, b)⟩ (yielded ops a.tmps) = false := by
    simp only [Region.wanted, ha.yl, hy]
    simpa using hb
  unfold wpListIn
  rw [if_neg (by simp [hw])]
  exact ⟨fun f _ => fr_fn rd f, h hl.2 rd _ hmd (ha.put d (opOk.lt hl.1) undef)⟩
theorem WR_yes {ops : Array Oper} {rest : List Oper} {d : Option Nat} {op : Op} {ty : TypeId} {pos : String} {af : Array Edge} {j : Nat} {b : Bool} (hy : yl ops ρ j = some b) (h : WR md P n ops (⟨d, op, ty, pos, af, none⟩ :: rest) Q ρ w) :
    WR md P n ops (⟨d, op, ty, pos, af, some (j, b)⟩ :: rest) Q ρ w := by
  intro hl rd a hmd ha
  have hl' : (⟨d, op, ty, pos, af, none⟩ :: rest : List Oper).all (opOk n) = true := hl
  have := h hl' rd a hmd ha
  unfold wpListIn at this ⊢
  have hw : Region.wanted ⟨d, op, ty, pos, af, some (j, b)⟩ (yielded ops a.tmps) = true := by
    simp only [Region.wanted, ha.yl, hy]
    simp
  rw [if_pos hw]
  rw [if_pos (by simp [Region.wanted])] at this
  exact this
/-- A test's outcome is parted. -/
theorem WR_part {ops : Array Oper} {l : List Oper} (t : Nat) {p : Prop} [Decidable p] (ht : ρ.f t = .bool (decide p)) (h1 : p → WR md P n ops l Q (up ρ t (.bool true)) w) (h2 : ¬ p → WR md P n ops l Q (up ρ t (.bool false)) w) : WR md P n ops l Q ρ w := by
  by_cases hp : p
  · have := h1 hp
    rwa [show Value.bool true = ρ.f t by rw [ht]; simp [hp], up_self] at this
  · have := h2 hp
    rwa [show Value.bool false = ρ.f t by rw [ht]; simp [hp], up_self] at this
theorem WR_partb {ops : Array Oper} {l : List Oper} (t : Nat) {b : Bool} (ht : ρ.f t = .bool b) (h1 : b = true → WR md P n ops l Q (up ρ t (.bool true)) w) (h2 : b = false → WR md P n ops l Q (up ρ t (.bool false)) w) : WR md P n ops l Q ρ w := by
  cases b with
  | true => have := h1 rfl; rwa [← ht, up_self] at this
  | false => have := h2 rfl; rwa [← ht, up_self] at this
theorem WR_is {ops : Array Oper} {l : List Oper} (t : Nat) (v : Value) (ht : ρ.f t = v) (h : WR md P n ops l Q (up ρ t v) w) : WR md P n ops l Q ρ w := by
  rwa [← ht, up_self] at h
theorem WR_partn {ops : Array Oper} {l : List Oper} (t : Nat) {p : Prop} [Decidable p] (ht : ρ.f t = .bool (!decide p)) (h1 : ¬ p → WR md P n ops l Q (up ρ t (.bool true)) w) (h2 : p → WR md P n ops l Q (up ρ t (.bool false)) w) : WR md P n ops l Q ρ w :=
  WR_partb t ht (fun h => h1 (by simpa using h)) (fun h => h2 (by simpa using h))
theorem WR_partnb {ops : Array Oper} {l : List Oper} (t : Nat) {b : Bool} (ht : ρ.f t = .bool (!b)) (h1 : b = false → WR md P n ops l Q (up ρ t (.bool true)) w) (h2 : b = true → WR md P n ops l Q (up ρ t (.bool false)) w) : WR md P n ops l Q ρ w :=
  WR_partb t ht (fun h => h1 (by simpa using h)) (fun h => h2 (by simpa using h))
theorem WR_tp {ops : Array Oper} {l : List Oper} (t : Nat) {p : Prop} [Decidable p] (ht : ρ.f t = .bool (decide p)) (hp : p) (h : WR md P n ops l Q (up ρ t (.bool true)) w) : WR md P n ops l Q ρ w := WR_part t ht (fun _ => h) (fun h' => absurd hp h')
theorem WR_fp {ops : Array Oper} {l : List Oper} (t : Nat) {p : Prop} [Decidable p] (ht : ρ.f t = .bool (decide p)) (hp : ¬ p) (h : WR md P n ops l Q (up ρ t (.bool false)) w) : WR md P n ops l Q ρ w := WR_part t ht (fun h' => absurd h' hp) (fun _ => h)
theorem WR_tn {ops : Array Oper} {l : List Oper} (t : Nat) {p : Prop} [Decidable p] (ht : ρ.f t = .bool (!decide p)) (hp : ¬ p) (h : WR md P n ops l Q (up ρ t (.bool true)) w) : WR md P n ops l Q ρ w := WR_partn t ht (fun _ => h) (fun h' => absurd h' hp)
theorem WR_fn {ops : Array Oper} {l : List Oper} (t : Nat) {p : Prop} [Decidable p] (ht : ρ.f t = .bool (!decide p)) (hp : p) (h : WR md P n ops l Q (up ρ t (.bool false)) w) : WR md P n ops l Q ρ w := WR_partn t ht (fun h' => absurd hp h') (fun _ => h)
theorem WR_tb {ops : Array Oper} {l : List Oper} (t : Nat) {b : Bool} (ht : ρ.f t = .bool b) (hp : b = true) (h : WR md P n ops l Q (up ρ t (.bool true)) w) : WR md P n ops l Q ρ w := WR_partb t ht (fun _ => h) (fun h' => by rw [hp] at h'; cases h')
theorem WR_fb {ops : Array Oper} {l : List Oper} (t : Nat) {b : Bool} (ht : ρ.f t = .bool b) (hp : b = false) (h : WR md P n ops l Q (up ρ t (.bool false)) w) : WR md P n ops l Q ρ w := WR_partb t ht (fun h' => by rw [hp] at h'; cases h') (fun _ => h)
theorem WR_tnb {ops : Array Oper} {l : List Oper} (t : Nat) {b : Bool} (ht : ρ.f t = .bool (!b)) (hp : b = false) (h : WR md P n ops l Q (up ρ t (.bool true)) w) : WR md P n ops l Q ρ w := WR_partnb t ht (fun _ => h) (fun h' => by rw [hp] at h'; cases h')
theorem WR_fnb {ops : Array Oper} {l : List Oper} (t : Nat) {b : Bool} (ht : ρ.f t = .bool (!b)) (hp : b = true) (h : WR md P n ops l Q (up ρ t (.bool false)) w) : WR md P n ops l Q ρ w := WR_partnb t ht (fun h' => by rw [hp] at h'; cases h') (fun _ => h)
end
end Coup
