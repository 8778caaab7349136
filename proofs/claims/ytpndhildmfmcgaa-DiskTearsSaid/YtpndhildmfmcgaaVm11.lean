/- Interface values, methods called through them, functions with first arguments. -/
import Derived.Test.YtpndhildmfmcgaaVm10
namespace Coup
open Go Go.RowKit
theorem vb {a b : Bool} (h : a = b) : Value.bool a = Value.bool b := congrArg _ h
theorem vi {k : IntKind} {a b : Int} (h : a = b) : Value.int k a = Value.int k b := congrArg _ h
section
variable {P : Program} {ρ : Env} {w : World} {d : Option Nat} {ty : TypeId} {pos : String} {af : Array Edge} {gd : Option (Nat × Bool)}
def notIface (P : Program) (t : Nat) : Bool := match P.underlying t with | some (.interface _) => false | some _ => true | none => false
theorem rn_iface {t : Nat} {x : Operand} (ht : notIface P t = true) : (execOp (ev ρ) ⟨d, .makeInterface t x, ty, pos, af, gd⟩).run P w = .ok (.value (.iface t (ev ρ x))) w := by
  unfold notIface at ht
  cases hu : P.underlying t with
  | none => simp [hu] at ht
  | some dd =>
    rw [hu] at ht
    simp only [execOp, Instr.makeInterface, Sem.run_bind, run_underlying hu, Result.andThen_ok]
    cases dd <;> first | (simp at ht; done) | rfl
theorem rn_assert {s t : Nat} {x : Operand} {v : Value} (ht : notIface P t = true) (hx : ev ρ x = .iface t v) : (execOp (ev ρ) ⟨d, .typeAssert x s t false, ty, pos, af, gd⟩).run P w = .ok (.value v) w := by
  unfold notIface at ht
  cases hu : P.underlying t with
  | none => simp [hu] at ht
  | some dd =>
    rw [hu] at ht
    simp only [execOp, hx, Instr.typeAssert, Sem.run_bind, run_underlying hu, Result.andThen_ok]
    cases dd <;> first | (simp at ht; done) | (simp [Result.andThen]; done)
/-- A method of a pointer type, with a pointer receiver, or with the value that it points to. -/
def methP (P : Program) (t : Nat) (name : String) (f : FuncId) : Prop := ∀ (a : Addr) (w : World), (method (P.types.size + Made.depth) t (.pointer (some a)) name).run P w = .ok (f, .pointer (some a)) w
def methV (P : Program) (t : Nat) (name : String) (f : FuncId) (e : Nat) : Prop := ∀ (a : Addr) (w : World), (method (P.types.size + Made.depth) t (.pointer (some a)) name).run P w = ((loadVar e a).run P w).andThen fun v w' => .ok (f, v) w'
theorem callFunc_enter {f : FuncId} (hc : canCall P f = true) (vl : Array Value) : (callFunc f vl).run P w = .ok (.enter f vl) w := by
  unfold canCall at hc
  cases hfn : P.funcs[f]? with
  | none => simp [hfn] at hc
  | some fn =>
    rw [hfn] at hc
    simp only [Bool.and_eq_true, Bool.not_eq_true'] at hc
    cases hb : fn.body with
    | none => simp [hb] at hc
    | some c =>
      have hn : ¬ fn.name = "runtime.NumGoroutine" := by simpa using hc.1
      simp [callFunc, program, Sem.run, hfn, hn, hb, Result.andThen]
theorem rn_invokeP {t : Nat} {name : String} {f : FuncId} {r : Operand} {al : List Operand} {vl : List Value} {ats : Array Nat} {a : Addr} (hm : methP P t name f) (hc : canCall P f = true) (hx : ev ρ r = .iface t (.pointer (some a))) (hv : al.map (ev ρ) = vl) :
    (execOp (ev ρ) ⟨d, .call ⟨.invoke r name, al.toArray, ats⟩, ty, pos, af, gd⟩).run P w = .ok (.enter f (.pointer (some a) :: vl).toArray) w := by
  have h1 : al.toArray.map (ev ρ) = vl.toArray := by rw [← hv]; simp
  have h2 := callFunc_enter (w := w) hc (.pointer (some a) :: vl).toArray
  have h4 : (callMethod (.iface t (.pointer (some a))) name vl.toArray).run P w = .ok (.enter f (.pointer (some a) :: vl).toArray) w := by
    have h5 : (program).run P w = .ok P w := rfl
    simp only [callMethod, Sem.run_bind, h5, hm a w, Result.andThen_ok]
    simpa using h2
  simp [execOp, resolve, h1, hx, invoke, Result.andThen, h4]
theorem rn_invokeV {t e : Nat} {name : String} {f : FuncId} {r : Operand} {al : List Operand} {vl : List Value} {ats : Array Nat} {a : Addr} {v : Value} (hm : methV P t name f e) (hc : canCall P f = true) (hx : ev ρ r = .iface t (.pointer (some a))) (hl : Ld P w e a v) (hv : al.map (ev ρ) = vl) :
    (execOp (ev ρ) ⟨d, .call ⟨.invoke r name, al.toArray, ats⟩, ty, pos, af, gd⟩).run P w = .ok (.enter f (v :: vl).toArray) w := by
  have h1 : al.toArray.map (ev ρ) = vl.toArray := by rw [← hv]; simp
  have h2 := callFunc_enter (w := w) hc (v :: vl).toArray
  have h3 := hm a w
  rw [show (loadVar e a).run P w = .ok v w from hl, Result.andThen_ok] at h3
  have h4 : (callMethod (.iface t (.pointer (some a))) name vl.toArray).run P w = .ok (.enter f (v :: vl).toArray) w := by
    have h5 : (program).run P w = .ok P w := rfl
    simp only [callMethod, Sem.run_bind, h5, h3, Result.andThen_ok]
    simpa using h2
  simp [execOp, resolve, h1, hx, invoke, Result.andThen, h4]
theorem rn_callf {f : FuncId} {x : Operand} {fl vl : List Value} {al : List Operand} {ats : Array Nat} (hc : canCall P f = true) (hx : ev ρ x = .func (.func f) fl.toArray #[]) (hv : al.map (ev ρ) = vl) :
    (execOp (ev ρ) ⟨d, .call ⟨.value x, al.toArray, ats⟩, ty, pos, af, gd⟩).run P w = .ok (.enter f (fl ++ vl).toArray) w := by
  have h1 : al.toArray.map (ev ρ) = vl.toArray := by rw [← hv]; simp
  have h2 := callFunc_enter (w := w) hc (fl ++ vl).toArray
  simp [execOp, resolve, Deferred.ofValue, h1, hx, invoke, h2, Result.andThen]
end
end Coup
