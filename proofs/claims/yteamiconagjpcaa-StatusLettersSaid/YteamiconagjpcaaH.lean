/- The shortest walk, of the code: by a search in breadth. First: what the search computes, plainly. -/
import Derived.Test.YteamiconagjpcaaG
import Derived.Test.YteamiconagjpcaaLib
namespace Go.Proofs.Yteamiconagjpcaa
open Go Go.RowKit Coup

/-- The statuses next of one, met one by one: was the aim found; where each came from; the queue. -/
def innerS (t q0 : Int) : List Int → List (Int × Int) → List Int → Bool × List (Int × Int) × List Int
  | [], kvs, q => (false, kvs, q)
  | s :: r, kvs, q =>
    match lookI kvs s with
    | some _ => innerS t q0 r kvs q
    | none => if s == t then (true, kvs ++ [(s, q0)], q ++ [s]) else innerS t q0 r (kvs ++ [(s, q0)]) (q ++ [s])
def outerS (t : Int) : Nat → List (Int × Int) → List Int → List (Int × Int)
  | 0, _, _ => []
  | _ + 1, kvs, [] => kvs
  | f + 1, kvs, q0 :: q =>
    match innerS t q0 (nextL q0) kvs (q0 :: q) with
    | (true, kvs', _) => kvs'
    | (false, kvs', q') => outerS t f kvs' q'.tail
/-- Where each came from, in the end. -/
def cameL (f t : Int) : List (Int × Int) := outerS t 10 [(f, f)] [f]
def backS (kvs : List (Int × Int)) (f : Int) : Nat → Int → List Int → List Int
  | 0, _, _ => []
  | n + 1, x, l => if (x != f) = true then (match lookI kvs x with | some y => backS kvs f n y (l ++ [y]) | none => []) else l
def backL (f t : Int) : List Int := backS (cameL f t) f 10 t [t]
def checkS (f t : Int) : Bool :=
  decide (cameL f t ≠ []) && (match lookI (cameL f t) t with | none => decide (wayL f t = []) | some _ => decide (backL f t ≠ []) && decide ((backL f t).reverse = wayL f t) && decide (wayL f t ≠ []))
theorem checkS_all {f t : Int} (hf : mayB f = true) (ht : mayB t = true) : checkS f t = true := by
  rcases nine hf with rfl | rfl | rfl | rfl | rfl | rfl | rfl | rfl | rfl <;>
  rcases nine ht with rfl | rfl | rfl | rfl | rfl | rfl | rfl | rfl | rfl <;> decide +kernel
end Go.Proofs.Yteamiconagjpcaa
