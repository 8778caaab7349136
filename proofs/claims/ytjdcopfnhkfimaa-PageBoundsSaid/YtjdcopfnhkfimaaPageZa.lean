/- Pages at their bounds. -/
import Derived.Test.YtjdcopfnhkfimaaPageZ
namespace Go.Proofs.Ytjdcopfnhkfimaa
open Go Go.RowKit Coup

def zB (m : Nat) : List UInt8 := List.replicate m 0
def eV (n : Nat) : View := ⟨4, 0, List.replicate n (some [])⟩
def aV : View := withV (eV 0) 0 (zB 400)
def bV : View := withV aV 1 (zB 92)
def tV : View := wtV (eV 125) 60
theorem eV_lenS (n : Nat) : lenS (eV n).slots = 0 := by
  show lenS (List.replicate n (some [])) = 0
  induction n with
  | zero => rfl
  | succ n ih => rw [List.replicate_succ, lenS, ih]; rfl
theorem eV_free (n : Nat) : freeV (eV n).slots = n := by
  show freeV (List.replicate n (some [])) = n
  have h : freeV (List.replicate n (some ([] : List UInt8))) = (List.replicate n (some ([] : List UInt8))).length := List.findIdx_eq_length.2 fun x hx => by
    obtain ⟨_, rfl⟩ := List.mem_replicate.1 hx
    rfl
  rw [h, List.length_replicate]
theorem eV_size (n : Nat) : sizeV (eV n) = 12 + 4 * n := by
  unfold sizeV
  rw [eV_lenS]
  show 12 + 4 * (List.replicate n (some [])).length + 0 = _
  rw [List.length_replicate]; rfl
theorem eV_good {n : Nat} (h : n ≤ 125) : Good (eV n) := by
  refine ⟨by show 4 ≤ 4; omega, by show 0 < 2147483648; omega, by rw [eV_size]; omega, fun r hm => ?_, ?_⟩
  · obtain ⟨_, e⟩ := List.mem_replicate.1 hm
    injection e with e
    rw [e]; simp
  · show (List.replicate n (some [])).getLast? ≠ some none
    rw [List.getLast?_replicate]
    split <;> simp
theorem eV_next (n : Nat) : withV (eV n) n [] = eV (n + 1) := by
  unfold withV eV setS
  dsimp only
  rw [if_pos (by rw [List.length_replicate]), List.replicate_succ']
theorem eV_lay {n : Nat} (h : n < 125) : layE (eV n) [] = 0 := by
  rw [layE, if_neg (by simp), eV_free, withE, eV_next, eV_size, if_neg (by omega)]
theorem good_aV : Good aV := Good.withV (eV_good (by omega)) (by decide +kernel) (by rw [zB, List.length_replicate]; omega) (by decide +kernel)
theorem good_bV : Good bV := Good.withV good_aV (by decide +kernel) (by rw [zB, List.length_replicate]; omega) (by decide +kernel)
theorem good_tV : Good tV := Good.wtV (eV_good (by omega)) 60
/-- A record is laid, as the bounds have it. -/
theorem layOk {V X : View} {f m : Nat} (hV : Good V) (h0 : layE V (zB m) = 0) (hf : freeV V.slots = f) (hX : withV V f (zB m) = X) (pr : Option Addr) (cr : Nat) (w : World) (h : SlAt w pr m 1 (bv (zB m))) :
    Calls Try.prog 8 [.agg (bv (bytesV V)).toArray, .slice pr m cr].toArray w (Ret fun v w' => v = .tuple #[.agg (bv (bytesV X)).toArray, .int .i64 (f : Nat), .int .i64 0] ∧ Below w.heap.size w w') := by
  have hl : (zB m).length = m := by simp [zB]
  have h1 := lay8 V pr cr (zB m) w hV (by rw [hl]; exact h)
  rw [layP, h0, if_pos rfl, if_pos rfl, hf, hX, hl] at h1
  exact h1
theorem layNo {V : View} {m : Nat} (hV : Good V) (h0 : layE V (zB m) = 8) (pr : Option Addr) (cr : Nat) (w : World) (h : SlAt w pr m 1 (bv (zB m))) :
    Calls Try.prog 8 [.agg (bv (bytesV V)).toArray, .slice pr m cr].toArray w (Ret fun v w' => v = .tuple #[.agg (bv zeroP).toArray, .int .i64 0, .int .i64 8] ∧ Below w.heap.size w w') := by
  have hl : (zB m).length = m := by simp [zB]
  have h1 := lay8 V pr cr (zB m) w hV (by rw [hl]; exact h)
  rw [layP, h0, if_neg (by omega), if_neg (by omega), hl] at h1
  exact h1
theorem f1 : layE (eV 0) (zB 400) = 0 := by decide +kernel
theorem f2 : layE aV (zB 92) = 0 ∧ freeV aV.slots = 1 := by decide +kernel
theorem f3 : layE bV (zB 0) = 8 := by decide +kernel
theorem f4 : layE aV (zB 93) = 8 := by decide +kernel
theorem f5 : roomV bV = -1 ∧ roomV aV = 92 := by decide +kernel
theorem f6 : layE (eV 125) (zB 0) = 8 ∧ roomV (eV 125) = -1 ∧ (eV 125).slots.length = 125 ∧ hasV (eV 125).slots 60 = true := by decide +kernel
theorem f7 : roomV tV = 0 ∧ layE tV (zB 0) = 0 ∧ freeV tV.slots = 60 := by decide +kernel
theorem zB_make (m : Nat) : List.replicate (m * 1) (Value.int .u8 0) = bv (zB m) := zeros_make m
end Go.Proofs.Ytjdcopfnhkfimaa
