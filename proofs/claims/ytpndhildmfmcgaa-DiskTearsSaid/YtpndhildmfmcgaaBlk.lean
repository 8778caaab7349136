/- Laws of the author's own, over any program: blocks of memory that are known whole: made, boxed, stored into, copied into, read. -/
import Derived.Test.YtpndhildmfmcgaaLib
import Derived.Laws.MakeOwn
namespace Coup
open Go Go.RowKit

/-- Block g holds just these cells. -/
def row (w : World) (g : Nat) (l : List Value) (t : TypeId) : Prop := w.heap[g]? = some (.cells l.toArray t (0, 0))
/-- Nothing but block g is another one; the number of blocks is the same. -/
structure Only (g : Nat) (w w' : World) : Prop where
  os : w'.os = w.os
  tape : w'.tape = w.tape
  output : w'.output = w.output
  size : w'.heap.size = w.heap.size
  block : ∀ k, k ≠ g → w'.heap[k]? = w.heap[k]?

theorem Only.below {g B : Nat} {w0 w w' : World} (h : Only g w w') (hb : Below B w0 w) (hB : B ≤ g) : Below B w0 w' :=
  hb.trans ⟨h.os, h.tape, h.output, Nat.le_of_eq h.size.symm, fun k hk => h.block k (by omega)⟩
theorem Only.setRow {w : World} {g : Nat} (cs : Array Value) : Only g w (w.setRow g cs) :=
  ⟨rfl, rfl, rfl, by simp [World.setRow], fun k hk => setRow_other w g k cs hk⟩

namespace row
variable {w w' : World} {g k : Nat} {l : List Value} {t : TypeId}
theorem lt (h : row w g l t) : g < w.heap.size := (Array.getElem?_eq_some_iff.1 h).1
theorem at_ (h : row w g l t) (j : Nat) : w.cell? ⟨g, j, none⟩ = l[j]? := by
  rw [cell_of_row w g j l.toArray t (0, 0) h]; simp
theorem cell (h : row w g l t) (j : Nat) {v : Value} (hv : l[j]? = some v) : w.cell? ⟨g, j, none⟩ = some v := by rw [h.at_, hv]
theorem frozen (h : row w g l t) (j : Nat) : w.frozen? ⟨g, j, none⟩ = false := frozen_of_row w g j l.toArray t h
theorem below (h : row w k l t) {B : Nat} (hb : Below B w w') (hk : k < B) : row w' k l t := (hb.block k hk).trans h
theorem new (h : row w k l t) (hb : Below w.heap.size w w') : row w' k l t := h.below hb h.lt
theorem only (h : row w k l t) (ho : Only g w w') (hk : k ≠ g) : row w' k l t := (ho.block k hk).trans h
theorem still (h : row w k l t) (hs : Still w w') : row w' k l t := by show w'.heap[k]? = _; rw [hs.heap]; exact h
theorem drew (h : row w k l t) : row w.drew k l t := h
/-- A part of the cells. -/
theorem range (h : row w g l t) (o : Nat) (cs : List Value) (hc : ∀ j v, cs[j]? = some v → l[o + j]? = some v) : w.rangeAt g o cs := fun j v hv => h.cell _ (hc j v hv)
theorem range_drop (h : row w g l t) (o n : Nat) : w.rangeAt g o ((l.drop o).take n) := h.range o _ fun j v hv => by
  rw [List.getElem?_take] at hv
  split at hv
  · rwa [List.getElem?_drop] at hv
  · cases hv
/-- A slice of all, or of a part. -/
theorem slAt (h : row w g l t) (o n sz : Nat) (hn : o + n * sz ≤ l.length) (hm : n ≤ maxLen) : SlAt w (some ⟨g, o, none⟩) n sz ((l.drop o).take (n * sz)) :=
  ⟨by simp; omega, hm, fun _ => ⟨g, o, rfl, h.lt, fun k hk => by rw [h.at_, List.getElem?_take, if_pos hk, List.getElem?_drop]⟩⟩
end row

theorem Only.trans {g : Nat} {a b c : World} (h : Only g a b) (k : Only g b c) : Only g a c :=
  ⟨k.os.trans h.os, k.tape.trans h.tape, k.output.trans h.output, k.size.trans h.size, fun i hi => (k.block i hi).trans (h.block i hi)⟩
theorem Only.refl (g : Nat) (w : World) : Only g w w := ⟨rfl, rfl, rfl, rfl, fun _ _ => rfl⟩
theorem Only.drew {g : Nat} {a b : World} (h : Only g a b) : Only g a b.drew := ⟨h.os, h.tape, h.output, h.size, h.block⟩
/-- Below, with nothing new, is left by any block's being written. -/
theorem row_alloc (w : World) (l : List Value) (t : TypeId) : row (w.alloc (.cells l.toArray t)) w.heap.size l t := heap_alloc_new w _
theorem below_alloc (w : World) (o : Obj) : Below w.heap.size w (w.alloc o) := (Below.refl _ _).alloc (Nat.le_refl _) o

section
variable {P : Program} {ops : Array Oper} {rest : List Oper} {o : Oper} {a : Act} {w : World} {K : Act → World → Prop} {Q : Exit → Act → World → Prop} {E : Prop}

/-! ### Which operation is the next one: for arms of a walk, under 'with_reducible refine' -/
theorem at_op (op : Op) {dst : Option Tmp} {ty : TypeId} {pos : String} {af : Array Edge} {gd : Option (Nat × Bool)} (h : wpList P ops Q (⟨dst, op, ty, pos, af, gd⟩ :: rest) a w) :
    wpList P ops Q (⟨dst, op, ty, pos, af, gd⟩ :: rest) a w := h
theorem sat_op (op : Op) {dst : Option Tmp} {ty : TypeId} {pos : String} {af : Array Edge} {gd : Option (Nat × Bool)}
    (h : if Region.wanted (⟨dst, op, ty, pos, af, gd⟩ : Oper) (yielded ops a.tmps) = true then Oper.wp P ⟨dst, op, ty, pos, af, gd⟩ a w K Q else E) :
    if Region.wanted (⟨dst, op, ty, pos, af, gd⟩ : Oper) (yielded ops a.tmps) = true then Oper.wp P ⟨dst, op, ty, pos, af, gd⟩ a w K Q else E := h

/-! ### New blocks -/
theorem run_alloc_row (ρ : Operand → Value) (t : TypeId) (ho : o.op = .alloc t) (zl : List Value) (hz : (P.info? t).map (fun i => i.zero.map (·.cells)) = some (some zl.toArray)) :
    (execOp ρ o).run P w = .ok (.value (.pointer (some ⟨w.heap.size, 0, none⟩))) (w.alloc (.cells zl.toArray t)) := by
  obtain ⟨i, hi, hzz⟩ := Option.map_eq_some_iff.1 hz
  obtain ⟨z, hz1, hz2⟩ := Option.map_eq_some_iff.1 hzz
  simp [execOp, ho, Instr.alloc, zeroValue, typeInfo, hi, hz1, newVar, newRow, hz2]
theorem wp_alloc_row (t : TypeId) (ho : o.op = .alloc t) (zl : List Value) (hz : (P.info? t).map (fun i => i.zero.map (·.cells)) = some (some zl.toArray))
    (h : ∀ g w', w.heap.size ≤ g → row w' g zl t → Below w.heap.size w w' → K (a.put o.dst (.pointer (some ⟨g, 0, none⟩))) w') : o.wp P a w K Q :=
  wp_by_run (run_alloc_row a.eval t ho zl hz) (h _ _ (Nat.le_refl _) (row_alloc w zl t) (below_alloc w _))
theorem wpList_alloc_row (hgd : o.guard = none) (t : TypeId) (ho : o.op = .alloc t) (zl : List Value) (hz : (P.info? t).map (fun i => i.zero.map (·.cells)) = some (some zl.toArray))
    (h : ∀ g w', w.heap.size ≤ g → row w' g zl t → Below w.heap.size w w' → wpList P ops Q rest (a.put o.dst (.pointer (some ⟨g, 0, none⟩))) w') : wpList P ops Q (o :: rest) a w :=
  wpList_plain hgd fun _ hK => wp_alloc_row t ho zl hz fun g w' h1 h2 h3 => hK _ _ (h g w' h1 h2 h3)
theorem step_alloc_row (hgd : o.guard = none) (t : TypeId) (ho : o.op = .alloc t) (zl : List Value) (hz : (P.info? t).map (fun i => i.zero.map (·.cells)) = some (some zl.toArray))
    (h : ∀ g w', w.heap.size ≤ g → row w' g zl t → Below w.heap.size w w' → K (a.put o.dst (.pointer (some ⟨g, 0, none⟩))) w') : if Region.wanted o (yielded ops a.tmps) = true then Oper.wp P o a w K Q else E := by
  rw [if_pos (by simp [Region.wanted, hgd])]
  exact wp_alloc_row t ho zl hz h

theorem run_box_row (ρ : Operand → Value) (t : TypeId) (x : Operand) (ho : o.op = .box t x) (vl : List Value) (hv : (ρ x).cells = vl.toArray) :
    (execOp ρ o).run P w = .ok (.value (.pointer (some ⟨w.heap.size, 0, none⟩))) (w.alloc (.cells vl.toArray t)) := by
  simp [execOp, ho, Instr.box, newVar, newRow, hv]
theorem wp_box_row (t : TypeId) (x : Operand) (ho : o.op = .box t x) (vl : List Value) (hv : (a.eval x).cells = vl.toArray)
    (h : ∀ g w', w.heap.size ≤ g → row w' g vl t → Below w.heap.size w w' → K (a.put o.dst (.pointer (some ⟨g, 0, none⟩))) w') : o.wp P a w K Q :=
  wp_by_run (run_box_row a.eval t x ho vl hv) (h _ _ (Nat.le_refl _) (row_alloc w vl t) (below_alloc w _))
theorem wpList_box_row (hgd : o.guard = none) (t : TypeId) (x : Operand) (ho : o.op = .box t x) (vl : List Value) (hv : (a.eval x).cells = vl.toArray)
    (h : ∀ g w', w.heap.size ≤ g → row w' g vl t → Below w.heap.size w w' → wpList P ops Q rest (a.put o.dst (.pointer (some ⟨g, 0, none⟩))) w') : wpList P ops Q (o :: rest) a w :=
  wpList_plain hgd fun _ hK => wp_box_row t x ho vl hv fun g w' h1 h2 h3 => hK _ _ (h g w' h1 h2 h3)

/-! ### Loads of structs and arrays -/
theorem run_load_rng (ρ : Operand → Value) (ty : TypeId) (x : Operand) (ho : o.op = .load ty x) (b off : Nat) (hx : ρ x = .pointer (some ⟨b, off, none⟩)) (cs : List Value) (hc : w.rangeAt b off cs)
    (hu : (P.underlying ty).any (·.isRow) = true) (hi : (P.info? ty).map (·.size) = some cs.length) : (execOp ρ o).run P w = .ok (.value (.agg cs.toArray)) w := by
  cases hd : P.underlying ty with
  | none => simp [hd] at hu
  | some d =>
    have hr : d.isRow = true := by simpa [hd] using hu
    unfold execOp
    simp only [ho, hx, Instr.loadAt, Instr.sureAddr, Sem.run_bind, Sem.run_pure, Result.andThen_ok, run_loadVar_mid w b off ty cs d hc hd hr hi]
theorem wp_load_rng (ty : TypeId) (x : Operand) (ho : o.op = .load ty x) (b off : Nat) (hx : a.eval x = .pointer (some ⟨b, off, none⟩)) (cs : List Value) (hc : w.rangeAt b off cs)
    (hu : (P.underlying ty).any (·.isRow) = true) (hi : (P.info? ty).map (·.size) = some cs.length) (h : K (a.put o.dst (.agg cs.toArray)) w) : o.wp P a w K Q :=
  wp_by_run (run_load_rng a.eval ty x ho b off hx cs hc hu hi) h
theorem wpList_load_rng (hgd : o.guard = none) (ty : TypeId) (x : Operand) (ho : o.op = .load ty x) (b off : Nat) (hx : a.eval x = .pointer (some ⟨b, off, none⟩)) (cs : List Value) (hc : w.rangeAt b off cs)
    (hu : (P.underlying ty).any (·.isRow) = true) (hi : (P.info? ty).map (·.size) = some cs.length) (h : wpList P ops Q rest (a.put o.dst (.agg cs.toArray)) w) : wpList P ops Q (o :: rest) a w :=
  wpList_plain hgd fun _ hK => wp_load_rng ty x ho b off hx cs hc hu hi (hK _ _ h)
theorem step_load_rng (hgd : o.guard = none) (ty : TypeId) (x : Operand) (ho : o.op = .load ty x) (b off : Nat) (hx : a.eval x = .pointer (some ⟨b, off, none⟩)) (cs : List Value) (hc : w.rangeAt b off cs)
    (hu : (P.underlying ty).any (·.isRow) = true) (hi : (P.info? ty).map (·.size) = some cs.length) (h : K (a.put o.dst (.agg cs.toArray)) w) : if Region.wanted o (yielded ops a.tmps) = true then Oper.wp P o a w K Q else E := by
  rw [if_pos (by simp [Region.wanted, hgd])]
  exact wp_load_rng ty x ho b off hx cs hc hu hi h
/-- The result out of its cell. -/
theorem results_cell_rng {fn : Func} {p : Tmp} {ty : TypeId} (h : fn.results = #[.cell p ty]) (tmps : Array Value) (w : World) (g : Nat) (t : TypeId) (cs : List Value) (hp : tmps.getD p undef = .pointer (some ⟨g, 0, none⟩))
    (hg : row w g cs t) (hu : (P.underlying ty).any (·.isRow) = true) (hi : (P.info? ty).map (·.size) = some cs.length) : (results fn tmps).run P w = .ok (.agg cs.toArray) w := by
  cases hd : P.underlying ty with
  | none => simp [hd] at hu
  | some d =>
    have hr : d.isRow = true := by simpa [hd] using hu
    have hp' : tmps[p]?.getD undef = .pointer (some ⟨g, 0, none⟩) := by simpa using hp
    have hc : w.rangeAt g 0 cs := hg.range 0 cs fun j v hv => by simpa using hv
    simp [results, h, hp', asAddr, run_loadVar_mid w g 0 ty cs d hc hd hr hi]

/-- A slice read as an array, by its address. -/
theorem run_arrayAt (t e : TypeId) (n : Nat) (hu : P.underlying t = some (.array n e)) (p : Option Addr) (len cap : Nat) (h : n ≤ len) (w : World) : (Instr.arrayAt t (.slice p len cap)).run P w = .ok (.pointer p) w := by
  simp [Instr.arrayAt, run_underlying hu, Nat.not_lt.2 h]

/-! ### Stores -/
theorem wp_store_at (ty : TypeId) (x y : Operand) (ho : o.op = .store ty x y) (g off : Nat) (hx : a.eval x = .pointer (some ⟨g, off, none⟩)) (vs : List Value) (hy : (a.eval y).cells = vs.toArray)
    (l : List Value) (t : TypeId) (hr : row w g l t) (hi : (P.info? ty).map (·.size) = some vs.length) (hfit : off + vs.length ≤ l.length) (h1 : ∀ v ∈ vs, v.oneCell' = true)
    (h : ∀ l' w', Hid (l' = splice l off vs) → row w' g l' t → Only g w w' → K (a.put o.dst undef) w') : o.wp P a w K Q := by
  obtain ⟨i, hq, hs⟩ := Option.map_eq_some_iff.1 hi
  have hst := run_storeCells_at P g off t vs 0 l.toArray w hr (by simpa using hfit) h1
  unfold Oper.wp execOp
  simp only [ho, hx, Instr.storeAt, Instr.sureAddr, Sem.run_bind, Sem.run_pure, Result.andThen_ok]
  have hrun : (storeVar ty ⟨g, off, none⟩ (a.eval y)).run P w = .ok () (w.setRow g (splice l off vs).toArray) := by
    simp [storeVar, Go.sizeOf, typeInfo, hq, hy, hs, hst, splice]
  simp only [hrun, Result.andThen_ok]
  exact h _ _ rfl (setRow_heap w g _ _ t _ hr) (Only.setRow _)
theorem wpList_store_at (hgd : o.guard = none) (ty : TypeId) (x y : Operand) (ho : o.op = .store ty x y) (g off : Nat) (hx : a.eval x = .pointer (some ⟨g, off, none⟩)) (vs : List Value) (hy : (a.eval y).cells = vs.toArray)
    (l : List Value) (t : TypeId) (hr : row w g l t) (hi : (P.info? ty).map (·.size) = some vs.length) (hfit : off + vs.length ≤ l.length) (h1 : ∀ v ∈ vs, v.oneCell' = true)
    (h : ∀ l' w', Hid (l' = splice l off vs) → row w' g l' t → Only g w w' → wpList P ops Q rest (a.put o.dst undef) w') : wpList P ops Q (o :: rest) a w :=
  wpList_plain hgd fun _ hK => wp_store_at ty x y ho g off hx vs hy l t hr hi hfit h1 fun l' w' e1 e2 e3 => hK _ _ (h l' w' e1 e2 e3)
theorem step_store_at (hgd : o.guard = none) (ty : TypeId) (x y : Operand) (ho : o.op = .store ty x y) (g off : Nat) (hx : a.eval x = .pointer (some ⟨g, off, none⟩)) (vs : List Value) (hy : (a.eval y).cells = vs.toArray)
    (l : List Value) (t : TypeId) (hr : row w g l t) (hi : (P.info? ty).map (·.size) = some vs.length) (hfit : off + vs.length ≤ l.length) (h1 : ∀ v ∈ vs, v.oneCell' = true)
    (h : ∀ l' w', Hid (l' = splice l off vs) → row w' g l' t → Only g w w' → K (a.put o.dst undef) w') : if Region.wanted o (yielded ops a.tmps) = true then Oper.wp P o a w K Q else E := by
  rw [if_pos (by simp [Region.wanted, hgd])]
  exact wp_store_at ty x y ho g off hx vs hy l t hr hi hfit h1 h

/-- The same as an equation, where the cells are there: for a region that draws its order. -/
theorem run_storeAt_there (ty : TypeId) (g off : Nat) (v : Value) (vs : List Value) (hv : v.cells = vs.toArray) (hi : (P.info? ty).map (·.size) = some vs.length) (h1 : ∀ v ∈ vs, v.oneCell' = true)
    (n : Nat) (hn : off + vs.length ≤ n) (w : World) (ht : w.there g 0 n) : (Instr.storeAt ty (.pointer (some ⟨g, off, none⟩)) v).run P w = .ok () (w.setCells g off vs) := by
  obtain ⟨i, hq, hs⟩ := Option.map_eq_some_iff.1 hi
  have := run_storeCells_cells (P := P) g off vs 0 w (fun j hj => by have := (ht (off + j) (by omega)).1; simpa using this) (fun j hj => by have := (ht (off + j) (by omega)).2; simpa using this) h1
  simp [Instr.storeAt, Instr.sureAddr, storeVar, Go.sizeOf, typeInfo, hq, hv, hs, this]
theorem splice_cons {l : List Value} {off : Nat} {v : Value} {vs : List Value} (h : off + (vs.length + 1) ≤ l.length) : splice (l.set off v) (off + 1) vs = splice l off (v :: vs) := by
  simp only [splice, List.length_cons]
  rw [List.take_set, List.drop_set_of_lt (by omega), List.take_add_one, List.getElem?_eq_getElem (by omega), Option.toList_some, List.set_append_right _ _ (by simp; omega)]
  simp [Nat.min_eq_left (by omega : off ≤ l.length)]
  congr 1
  omega
theorem row.setCells {g : Nat} {t : TypeId} : ∀ (vs : List Value) (off : Nat) (l : List Value) (w : World), row w g l t → off + vs.length ≤ l.length → row (w.setCells g off vs) g (splice l off vs) t
  | [], off, l, w, h, _ => by simpa [World.setCells, splice] using h
  | v :: vs, off, l, w, h, hl => by
    simp only [List.length_cons] at hl
    have h2 : row (w.setCell ⟨g, off, none⟩ v) g (l.set off v) t := by
      have := heap_setCell_same w g off l.toArray t v h
      simpa [row] using this
    have := row.setCells vs (off + 1) (l.set off v) _ h2 (by simp; omega)
    rwa [splice_cons hl] at this
theorem Only.setCell (w : World) (g i : Nat) (v : Value) : Only g w (w.setCell ⟨g, i, none⟩ v) :=
  ⟨rfl, rfl, rfl, by simp [World.setCell], fun k hk => heap_setCell_other w ⟨g, i, none⟩ k v hk⟩
theorem row.setc {w : World} {g : Nat} {l : List Value} {t : TypeId} (h : row w g l t) (i : Nat) (v : Value) : row (w.setCell ⟨g, i, none⟩ v) g (l.set i v) t := by
  have := heap_setCell_same w g i l.toArray t v h
  simpa [row] using this
theorem Only.setCells (g : Nat) : ∀ (vs : List Value) (off : Nat) (w : World), Only g w (w.setCells g off vs)
  | [], _, w => Only.refl g w
  | v :: vs, off, w => (Only.setCell w g off v).trans (Only.setCells g vs (off + 1) _)
theorem row.setSame {w : World} {g : Nat} {l : List Value} {t : TypeId} (h : row w g l t) : row (w.setCells g 0 l) g l t := by
  have := row.setCells l 0 l w h (by omega)
  rwa [show splice l 0 l = l by simp [splice]] at this
theorem row.range_all {w : World} {g : Nat} {l : List Value} {t : TypeId} (h : row w g l t) : w.rangeAt g 0 l := h.range 0 l fun j v hv => by simpa using hv
theorem row.there {w : World} {g : Nat} {l : List Value} {t : TypeId} (h : row w g l t) : w.there g 0 l.length := fun j hj => by
  rw [Nat.zero_add]
  exact ⟨by rw [h.at_, List.getElem?_eq_getElem hj]; rfl, h.frozen j⟩
/-- One row stands as it is, of another block so many cells are there: a condition for a region that draws its order. -/
def HS (g1 : Nat) (l1 : List Value) (t1 : TypeId) (g2 n2 : Nat) (w : World) : Prop := row w g1 l1 t1 ∧ w.there g2 0 n2
theorem HS.drew {g1 : Nat} {l1 : List Value} {t1 : TypeId} {g2 n2 : Nat} {w : World} (h : HS g1 l1 t1 g2 n2 w) : HS g1 l1 t1 g2 n2 w.drew := h
theorem HS.set {g1 : Nat} {l1 : List Value} {t1 : TypeId} {g2 n2 : Nat} {w : World} (h : HS g1 l1 t1 g2 n2 w) (hne : g1 ≠ g2) (off : Nat) (vs : List Value) : HS g1 l1 t1 g2 n2 (w.setCells g2 off vs) :=
  ⟨h.1.only (Only.setCells g2 vs off w) hne, World.there_setCells h.2 g2 off vs⟩
theorem HS.setc {g1 : Nat} {l1 : List Value} {t1 : TypeId} {g2 n2 : Nat} {w : World} (h : HS g1 l1 t1 g2 n2 w) (hne : g1 ≠ g2) (off : Nat) (v : Value) : HS g1 l1 t1 g2 n2 (w.setCell ⟨g2, off, none⟩ v) := h.set hne off [v]
theorem HS.out1 {g1 : Nat} {l1 : List Value} {t1 : TypeId} {g2 n2 : Nat} {w : World} (h : HS g1 l1 t1 g2 n2 w) : row w g1 l1 t1 := h.1
/-- What lies in a cell, unnamed. -/
def cellOf (w : World) (a : Addr) : Value := (w.cell? a).getD undef
theorem HS.cell {g1 : Nat} {l1 : List Value} {t1 : TypeId} {g2 n2 : Nat} (j : Nat) (hj : j < n2) (w : World) (h : HS g1 l1 t1 g2 n2 w) : w.cell? ⟨g2, j, none⟩ = some (cellOf w ⟨g2, j, none⟩) := by
  have := (h.2 j hj).1
  rw [Nat.zero_add] at this
  obtain ⟨v, hv⟩ := Option.isSome_iff_exists.1 this
  rw [cellOf, hv]; rfl
theorem HS.frozen {g1 : Nat} {l1 : List Value} {t1 : TypeId} {g2 n2 : Nat} (j : Nat) (hj : j < n2) (w : World) (h : HS g1 l1 t1 g2 n2 w) : w.frozen? ⟨g2, j, none⟩ = false := by
  have := (h.2 j hj).2
  rwa [Nat.zero_add] at this

/-! ### A call of a function in a region that draws its order -/
theorem step_call_fn (hgd : o.guard = none) (f : FuncId) (xs : Array Operand) (ats : Array TypeId) (ho : o.op = .call { callee := .value (.func f), args := xs, argTypes := ats })
    (vs : List Value) (hv : xs.toList.map a.eval = vs) (hf : (callFunc f (#[] ++ vs.toArray ++ #[])).run P w = .ok (.enter f vs.toArray) w)
    (hc : Calls P f vs.toArray w fun e w' => ∃ v, e = .returned v ∧ K (a.put o.dst v) w') : if Region.wanted o (yielded ops a.tmps) = true then Oper.wp P o a w K Q else E := by
  rw [if_pos (by simp [Region.wanted, hgd])]
  obtain ⟨dst, op, ty, pos, af, gd⟩ := o
  simp only at ho
  subst ho
  have hrun : (execOp a.eval ⟨dst, .call { callee := .value (.func f), args := xs, argTypes := ats }, ty, pos, af, gd⟩).run P w = .ok (.enter f vs.toArray) w := by
    have hm : xs.map a.eval = vs.toArray := by rw [← hv, ← Array.toList_map]
    rw [execOp_call_go, hm]
    exact hf
  unfold Oper.wp
  rw [hrun, Oper.upon_enter]
  refine hc.mono ?_
  rintro e w' ⟨v, rfl, h⟩
  exact h

/-! ### Copies -/
theorem wp_copy_at (d s : Operand) (dT sT : TypeId) (ho : o.op = .call { callee := .builtin .copy, args := #[d, s], argTypes := #[dT, sT] }) (elem : TypeId) (hu : P.underlying dT = some (.slice elem)) (hsz : (P.info? elem).map (·.size) = some 1)
    (dp sp : Option Addr) (dLen dCap sLen sCap : Nat) (hd : a.eval d = .slice dp dLen dCap) (hs : a.eval s = .slice sp sLen sCap)
    (g off : Nat) (l : List Value) (t : TypeId) (hr : row w g l t) (cs : List Value) (hn : cs.length = Nat.min sLen dLen)
    (hpos : 0 < cs.length → dp = some ⟨g, off, none⟩ ∧ ∃ ad, sp = some ad ∧ ∀ j v, cs[j]? = some v → w.cell? (ad.add j) = some v)
    (hfit : off + cs.length ≤ l.length) (h1 : ∀ v ∈ cs, v.oneCell' = true)
    (h : ∀ l' w', Hid (l' = splice l off cs) → row w' g l' t → Only g w w' → K (a.put o.dst (goInt cs.length)) w') : o.wp P a w K Q := by
  by_cases h0 : cs.length = 0
  · obtain rfl : cs = [] := List.eq_nil_of_length_eq_zero h0
    have hrun := run_copy_none (P := P) w dT sT o.type elem dp sp dLen dCap sLen sCap hu hsz (by simpa using hn.symm)
    unfold Oper.wp
    simp [execOp, ho, resolve, invoke, builtin, hd, hs, hrun, Result.andThen]
    exact h _ w (show _ = _ by simp [splice]) hr (Only.refl _ _)
  · obtain ⟨rfl, ad, rfl, hsrc⟩ := hpos (by omega)
    have hrun := run_copy_row (P := P) w dT sT o.type elem g off dLen dCap ad sLen sCap l.toArray t cs hu hsz hr hn hsrc (by simpa using hfit) h1
    unfold Oper.wp
    simp [execOp, ho, resolve, invoke, builtin, hd, hs, hrun, Result.andThen]
    exact h _ _ (show _ = _ from rfl) (by simpa [row, splice] using setRow_heap w g _ _ t _ hr) (Only.setRow _)
theorem wpList_copy_at (hgd : o.guard = none) (d s : Operand) (dT sT : TypeId) (ho : o.op = .call { callee := .builtin .copy, args := #[d, s], argTypes := #[dT, sT] }) (elem : TypeId) (hu : P.underlying dT = some (.slice elem)) (hsz : (P.info? elem).map (·.size) = some 1)
    (dp sp : Option Addr) (dLen dCap sLen sCap : Nat) (hd : a.eval d = .slice dp dLen dCap) (hs : a.eval s = .slice sp sLen sCap)
    (g off : Nat) (l : List Value) (t : TypeId) (hr : row w g l t) (cs : List Value) (hn : cs.length = Nat.min sLen dLen)
    (hpos : 0 < cs.length → dp = some ⟨g, off, none⟩ ∧ ∃ ad, sp = some ad ∧ ∀ j v, cs[j]? = some v → w.cell? (ad.add j) = some v)
    (hfit : off + cs.length ≤ l.length) (h1 : ∀ v ∈ cs, v.oneCell' = true)
    (h : ∀ l' w', Hid (l' = splice l off cs) → row w' g l' t → Only g w w' → wpList P ops Q rest (a.put o.dst (goInt cs.length)) w') : wpList P ops Q (o :: rest) a w :=
  wpList_plain hgd fun _ hK => wp_copy_at d s dT sT ho elem hu hsz dp sp dLen dCap sLen sCap hd hs g off l t hr cs hn hpos hfit h1 fun l' w' e1 e2 e3 => hK _ _ (h l' w' e1 e2 e3)
theorem step_copy_at (hgd : o.guard = none) (d s : Operand) (dT sT : TypeId) (ho : o.op = .call { callee := .builtin .copy, args := #[d, s], argTypes := #[dT, sT] }) (elem : TypeId) (hu : P.underlying dT = some (.slice elem)) (hsz : (P.info? elem).map (·.size) = some 1)
    (dp sp : Option Addr) (dLen dCap sLen sCap : Nat) (hd : a.eval d = .slice dp dLen dCap) (hs : a.eval s = .slice sp sLen sCap)
    (g off : Nat) (l : List Value) (t : TypeId) (hr : row w g l t) (cs : List Value) (hn : cs.length = Nat.min sLen dLen)
    (hpos : 0 < cs.length → dp = some ⟨g, off, none⟩ ∧ ∃ ad, sp = some ad ∧ ∀ j v, cs[j]? = some v → w.cell? (ad.add j) = some v)
    (hfit : off + cs.length ≤ l.length) (h1 : ∀ v ∈ cs, v.oneCell' = true)
    (h : ∀ l' w', Hid (l' = splice l off cs) → row w' g l' t → Only g w w' → K (a.put o.dst (goInt cs.length)) w') : if Region.wanted o (yielded ops a.tmps) = true then Oper.wp P o a w K Q else E := by
  rw [if_pos (by simp [Region.wanted, hgd])]
  exact wp_copy_at d s dT sT ho elem hu hsz dp sp dLen dCap sLen sCap hd hs g off l t hr cs hn hpos hfit h1 h

/-! ### Structs and arrays by value -/
theorem fold_set (n : Nat) : ∀ (vs : List Value) (k : Nat) (A : List Value), n + k + vs.length ≤ A.length →
    (vs.zipIdx k).foldl (fun (cs : Array Value) (p : Value × Nat) => cs.setIfInBounds (n + p.2) p.1) A.toArray = (A.take (n + k) ++ (vs ++ A.drop (n + k + vs.length))).toArray
  | [], k, A, _ => by simp
  | v :: vs, k, A, hl => by
    simp only [List.length_cons] at hl
    have ih := fold_set n vs (k + 1) (A.set (n + k) v) (by simp; omega)
    have he : A.toArray.setIfInBounds (n + k) v = (A.set (n + k) v).toArray := by simp
    rw [List.zipIdx_cons, List.foldl_cons, he, ih]
    congr 1
    have h1 : n + (k + 1) = n + k + 1 := by omega
    rw [h1, List.take_set, List.drop_set_of_lt (by omega), List.take_add_one, List.getElem?_eq_getElem (by omega), Option.toList_some, List.set_append_right _ _ (by simp; omega)]
    simp [Nat.min_eq_left (by omega : n + k ≤ A.length)]
    congr 1
    omega
/-- The parts of a struct, laid one behind the other. -/
theorem fill_seq (place : Nat → Option (Nat × Nat)) : ∀ (parts : List (Nat × Value)) (pre post : List Value),
    (∀ i (hi : i < parts.length), place parts[i].1 = some (pre.length + ((parts.take i).map fun q => q.2.cells.size).sum, parts[i].2.cells.size)) →
    post.length = ((parts.map fun q => q.2.cells.size).sum) →
    Instr.fill place (pre ++ post).toArray parts = some (pre ++ (parts.map fun q => q.2.cells.toList).flatten).toArray
  | [], pre, post, _, hl => by
    have : post = [] := List.eq_nil_of_length_eq_zero (by simpa using hl)
    subst this; simp [Instr.fill]
  | (i, v) :: rest, pre, post, hp, hl => by
    have h0 := hp 0 (by simp)
    simp only [List.getElem_cons_zero, List.take_zero, List.map_nil, List.sum_nil, Nat.add_zero] at h0
    simp only [Instr.fill, h0]
    have hlen : post.length = v.cells.size + (rest.map fun q => q.2.cells.size).sum := by simpa using hl
    rw [if_neg (by simp; omega)]
    have hset : (v.cells.zipIdx.foldl (fun cs (c, j) => cs.setIfInBounds (pre.length + j) c) (pre ++ post).toArray) = ((pre ++ v.cells.toList) ++ post.drop v.cells.size).toArray := by
      have := fold_set pre.length v.cells.toList 0 (pre ++ post) (by simp; omega)
      rw [← Array.foldl_toList, Array.toList_zipIdx]
      refine this.trans ?_
      simp [List.drop_append]
    rw [hset, fill_seq place rest (pre ++ v.cells.toList) (post.drop v.cells.size)
      (fun j hj => by
        have := hp (j + 1) (by simpa using hj)
        simp only [List.getElem_cons_succ, List.take_succ_cons, List.map_cons, List.sum_cons] at this
        rw [this]; simp; omega)
      (by simp; omega)]
    simp
/-- A struct's places: of each field where it begins, and how many cells it has. -/
def placesOf (P : Program) (t : TypeId) : Option (List (Nat × Nat)) :=
  match P.underlying t with
  | some (.struct fields) => fields.toList.mapM (fun f => (P.info? f.type).map fun i => (f.offset, i.size))
  | _ => none
theorem run_build_struct (t : TypeId) (parts : Array (Nat × Value)) (places : List (Nat × Nat)) (hpl : placesOf P t = some places) (n : Nat) (hn : (P.info? t).map (fun i => i.zero.map (·.cells.size)) = some (some n))
    (hp : ∀ i (hi : i < parts.toList.length), places[parts.toList[i].1]? = some (((parts.toList.take i).map fun q => q.2.cells.size).sum, parts.toList[i].2.cells.size))
    (hs : n = ((parts.toList.map fun q => q.2.cells.size).sum)) :
    (Instr.build t parts).run P w = .ok (.agg ((parts.toList.map fun q => q.2.cells.toList).flatten).toArray) w := by
  refine run_build w t parts _ ?_
  obtain ⟨it, hi, hzz⟩ := Option.map_eq_some_iff.1 hn
  obtain ⟨z, hz1, hz2⟩ := Option.map_eq_some_iff.1 hzz
  unfold placesOf at hpl
  unfold Program.built
  cases hu : P.underlying t with
  | none => simp [hu] at hpl
  | some d =>
    cases d <;> try (simp [hu] at hpl; done)
    case struct fields =>
      simp only [hu] at hpl
      simp only [hi, hz1, hpl]
      have := fill_seq (fun i => places.toArray[i]?) parts.toList [] z.cells.toList (by simpa using hp) (by simpa [hz2] using hs)
      simpa using this
theorem wp_build_struct (t : TypeId) (parts : Array (Nat × Operand)) (ho : o.op = .build t parts) (vs : List (Nat × Value)) (hv : (parts.toList.map fun (i, x) => (i, a.eval x)) = vs)
    (places : List (Nat × Nat)) (hpl : placesOf P t = some places) (n : Nat) (hn : (P.info? t).map (fun i => i.zero.map (·.cells.size)) = some (some n))
    (hp : ∀ i (hi : i < vs.length), places[vs[i].1]? = some (((vs.take i).map fun q => q.2.cells.size).sum, vs[i].2.cells.size)) (hs : n = ((vs.map fun q => q.2.cells.size).sum))
    (h : K (a.put o.dst (.agg ((vs.map fun q => q.2.cells.toList).flatten).toArray)) w) : o.wp P a w K Q := by
  refine wp_by_run ?_ h
  have := run_build_struct (P := P) (w := w) t vs.toArray places hpl n hn (by simpa using hp) (by simpa using hs)
  have hm : (parts.map fun (i, x) => (i, a.eval x)) = vs.toArray := by rw [← hv, ← Array.toList_map]
  simp only [execOp, ho, hm, Sem.run_bind, this, Result.andThen_ok]
  rfl
theorem wpList_build_struct (hgd : o.guard = none) (t : TypeId) (parts : Array (Nat × Operand)) (ho : o.op = .build t parts) (vs : List (Nat × Value)) (hv : (parts.toList.map fun (i, x) => (i, a.eval x)) = vs)
    (places : List (Nat × Nat)) (hpl : placesOf P t = some places) (n : Nat) (hn : (P.info? t).map (fun i => i.zero.map (·.cells.size)) = some (some n))
    (hp : ∀ i (hi : i < vs.length), places[vs[i].1]? = some (((vs.take i).map fun q => q.2.cells.size).sum, vs[i].2.cells.size)) (hs : n = ((vs.map fun q => q.2.cells.size).sum))
    (h : wpList P ops Q rest (a.put o.dst (.agg ((vs.map fun q => q.2.cells.toList).flatten).toArray)) w) : wpList P ops Q (o :: rest) a w :=
  wpList_plain hgd fun _ hK => wp_build_struct t parts ho vs hv places hpl n hn hp hs (hK _ _ h)
theorem step_build_struct (hgd : o.guard = none) (t : TypeId) (parts : Array (Nat × Operand)) (ho : o.op = .build t parts) (vs : List (Nat × Value)) (hv : (parts.toList.map fun (i, x) => (i, a.eval x)) = vs)
    (places : List (Nat × Nat)) (hpl : placesOf P t = some places) (n : Nat) (hn : (P.info? t).map (fun i => i.zero.map (·.cells.size)) = some (some n))
    (hp : ∀ i (hi : i < vs.length), places[vs[i].1]? = some (((vs.take i).map fun q => q.2.cells.size).sum, vs[i].2.cells.size)) (hs : n = ((vs.map fun q => q.2.cells.size).sum))
    (h : K (a.put o.dst (.agg ((vs.map fun q => q.2.cells.toList).flatten).toArray)) w) : if Region.wanted o (yielded ops a.tmps) = true then Oper.wp P o a w K Q else E := by
  rw [if_pos (by simp [Region.wanted, hgd])]
  exact wp_build_struct t parts ho vs hv places hpl n hn hp hs h

/-- A slice written out, element by element. -/
theorem run_buildSlice_seq (t e : TypeId) (len : Nat) (parts : Array (Nat × Value)) (ht : P.underlying t = some (.slice e)) (sz : Nat) (zs : Array Value) (hi : (P.info? e).map (fun i => (i.zero.map (·.cells), i.size)) = some (some zs, sz))
    (hlim : len * sz ≤ 16777216) (hpos : 0 < len * sz)
    (hp : ∀ i (hi : i < parts.toList.length), parts.toList[i].1 * sz = (((parts.toList.take i).map fun q => q.2.cells.size).sum) ∧ parts.toList[i].2.cells.size = sz) (hs : len * sz = ((parts.toList.map fun q => q.2.cells.size).sum)) :
    (Instr.buildSlice t len parts).run P w = .ok (.slice (some ⟨w.heap.size, 0, none⟩) len len) (w.alloc (.cells ((parts.toList.map fun q => q.2.cells.toList).flatten).toArray e)) := by
  obtain ⟨i, hq, hzz⟩ := Option.map_eq_some_iff.1 hi
  simp only [Prod.mk.injEq] at hzz
  obtain ⟨hz, hsz⟩ := hzz
  obtain ⟨z, hz1, hz2⟩ := Option.map_eq_some_iff.1 hz
  have hfill := fill_seq (fun i => some (i * sz, sz)) parts.toList [] ((Array.range (len * sz)).map (zs[· % zs.size]!)).toList
    (fun j hj => by obtain ⟨h1, h2⟩ := hp j hj; rw [h1, h2]; simp) (by simpa using hs)
  simp only [List.nil_append, Array.toArray_toList] at hfill
  have hne : ¬ (len * sz = 0) := by omega
  simp [Instr.buildSlice, run_underlying ht, Go.sizeOf, typeInfo, hq, hsz, zeroValue, hz1, hz2, hfill, newRow, Nat.not_lt.2 hlim, hne]
theorem wpList_buildSlice_seq (hgd : o.guard = none) (t e : TypeId) (len : Nat) (parts : Array (Nat × Operand)) (ho : o.op = .buildSlice t len parts) (vs : List (Nat × Value)) (hv : (parts.toList.map fun (i, x) => (i, a.eval x)) = vs)
    (ht : P.underlying t = some (.slice e)) (sz : Nat) (zs : Array Value) (hi : (P.info? e).map (fun i => (i.zero.map (·.cells), i.size)) = some (some zs, sz)) (hlim : len * sz ≤ 16777216) (hpos : 0 < len * sz)
    (hp : ∀ i (hi : i < vs.length), vs[i].1 * sz = (((vs.take i).map fun q => q.2.cells.size).sum) ∧ vs[i].2.cells.size = sz) (hs : len * sz = ((vs.map fun q => q.2.cells.size).sum))
    (h : ∀ g w', w.heap.size ≤ g → row w' g ((vs.map fun q => q.2.cells.toList).flatten) e → Below w.heap.size w w' → wpList P ops Q rest (a.put o.dst (.slice (some ⟨g, 0, none⟩) len len)) w') : wpList P ops Q (o :: rest) a w := by
  refine wpList_by_run hgd ?_ (h w.heap.size (w.alloc (.cells ((vs.map fun q => q.2.cells.toList).flatten).toArray e)) (Nat.le_refl _) (row_alloc w _ e) (below_alloc w _))
  have := run_buildSlice_seq (P := P) (w := w) t e len vs.toArray ht sz zs hi hlim hpos (by simpa using hp) (by simpa using hs)
  have hm : (parts.map fun (i, x) => (i, a.eval x)) = vs.toArray := by rw [← hv, ← Array.toList_map]
  simp only [execOp, ho, hm, Sem.run_bind, this, Result.andThen_ok]
  rfl

/-! ### New rows by make -/
theorem run_make_rows (t e : TypeId) (zl : List Value) (sz bytes : Nat) (ht : P.underlying t = some (.slice e)) (hinfo : (P.info? e).map (fun i => (i.zero.map (·.cells), i.size, i.bytes)) = some (some zl.toArray, sz, bytes))
    (n : Nat) (hb : bytes * n ≤ 281474976710656) (h63 : n ≤ 9223372036854775807) :
    (Instr.makeSlice t (.int .i64 n) (.int .i64 n)).run P w = .ok (.slice (some ⟨w.heap.size, 0, none⟩) n n) (w.alloc (.cells (madeCells zl.toArray (n * sz)) e)) := by
  obtain ⟨i, hi, hzz⟩ := Option.map_eq_some_iff.1 hinfo
  simp only [Prod.mk.injEq] at hzz
  obtain ⟨hz, hs, hbb⟩ := hzz
  obtain ⟨z, hz1, hz2⟩ := Option.map_eq_some_iff.1 hz
  have := run_make (P := P) (w := w) t e i z ht hi hz1 .i64 .i64 n n (by omega) (by omega) (by rw [hbb]; have : ((bytes * n : Nat) : Int) ≤ 281474976710656 := by omega
                                                                                               rwa [Int.natCast_mul] at this) (by omega)
  rw [this]
  simp [hz2, hs]
theorem madeCells_alike (z : List Value) (v : Value) (hz : ∀ u ∈ z, u = v) (h0 : 0 < z.length) (n : Nat) : madeCells z.toArray n = (List.replicate n v).toArray := by
  apply Array.ext
  · simp [madeCells]
  · intro i h1 h2
    simp only [madeCells, List.size_toArray, Array.getElem_map, Array.getElem_range, List.getElem_toArray, List.getElem_replicate]
    have hlt : i % z.length < z.length := Nat.mod_lt _ h0
    rw [getElem!_pos z.toArray _ (by simpa using hlt)]
    exact hz _ (by simp)
theorem wpList_make_rows (hgd : o.guard = none) (t e : TypeId) (x y : Operand) (ho : o.op = .makeSlice t x y) (n : Nat) (hx : a.eval x = .int .i64 n) (hy : a.eval y = .int .i64 n)
    (zl : List Value) (sz bytes : Nat) (ht : P.underlying t = some (.slice e)) (hinfo : (P.info? e).map (fun i => (i.zero.map (·.cells), i.size, i.bytes)) = some (some zl.toArray, sz, bytes))
    (hb : bytes * n ≤ 281474976710656) (h63 : n ≤ 9223372036854775807) (v : Value) (hz : ∀ u ∈ zl, u = v) (h0 : 0 < zl.length)
    (h : ∀ g w', w.heap.size ≤ g → row w' g (List.replicate (n * sz) v) e → Below w.heap.size w w' → wpList P ops Q rest (a.put o.dst (.slice (some ⟨g, 0, none⟩) n n)) w') : wpList P ops Q (o :: rest) a w := by
  refine wpList_by_run hgd ?_ (h w.heap.size (w.alloc (.cells (List.replicate (n * sz) v).toArray e)) (Nat.le_refl _) (row_alloc w _ e) (below_alloc w _))
  have := run_make_rows (w := w) t e zl sz bytes ht hinfo n hb h63
  rw [madeCells_alike zl v hz h0] at this
  simp only [execOp, ho, hx, hy, Sem.run_bind, this, Result.andThen_ok]
  rfl
end
end Coup
