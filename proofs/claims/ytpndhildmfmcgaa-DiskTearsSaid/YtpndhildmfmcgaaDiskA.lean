/- Disks, plainly. -/
import Derived.Test.YtpndhildmfmcgaaDiskS
namespace Go.Proofs.Ytpndhildmfmcgaa
open Go Go.RowKit Coup

abbrev Sec := List UInt8
/-- A disk: of each sector what lasts, then what was written since; how many steps are done still (below 0: any number); is it dead? -/
structure Dk where
  V : List (List Sec)
  left : Int
  dead : Bool
def Dk.n (D : Dk) : Nat := D.V.length
def zeroS : Sec := List.replicate 128 0
def secsOk (L : List Sec) : Prop := ∀ s ∈ L, s.length = 128
structure DkOk (D : Dk) : Prop where
  n : D.V.length ≤ 8192
  ne : ∀ v ∈ D.V, v ≠ []
  sec : ∀ v ∈ D.V, secsOk v
  short : ∀ v ∈ D.V, v.length ≤ 100000
def ver (D : Dk) (i : Nat) : List Sec := D.V.getD i []
def lastS (v : List Sec) : Sec := v.getLastD zeroS
def headS (v : List Sec) : Sec := v.headD zeroS
def readD (D : Dk) (i : Nat) : Sec := lastS (ver D i)
/-- A step: is it done, and the disk behind it. -/
def stepOk (D : Dk) : Bool := !(D.dead || D.left == 0)
def stepD (D : Dk) : Dk := if stepOk D then { D with left := if 0 < D.left then D.left - 1 else D.left } else { D with dead := true }
def setV (D : Dk) (i : Nat) (v : List Sec) : Dk := { D with V := D.V.set i v }
def writeD (D : Dk) (i : Nat) (s : Sec) : Dk := if stepOk D then setV (stepD D) i (ver D i ++ [s]) else stepD D
def flushD (D : Dk) : Dk := if stepOk D then { stepD D with V := D.V.map fun v => [lastS v] } else stepD D
def openB (D : Dk) (i : Nat) : Bool := decide (1 < (ver D i).length)
def tornS (a b : Sec) : Sec := a.take 64 ++ b.drop 64
/-- What may be left of versions, in the order of picks. -/
def leftAt (v : List Sec) (k : Nat) : Sec := if k % 2 = 1 then v.getD ((k + 1) / 2) zeroS else if k = 0 then headS v else tornS (v.getD (k / 2) zeroS) (v.getD (k / 2 - 1) zeroS)
def leftS (v : List Sec) (pick : Int) : Sec := leftAt v (pick % ((2 * v.length - 1 : Nat) : Int)).toNat
def opN (D : Dk) : List Nat := (List.range D.V.length).filter (openB D)
/-! ### Sectors, one behind the other -/
theorem flat_len {L : List Sec} (h : secsOk L) : L.flatten.length = L.length * 128 := by
  induction L with
  | nil => rfl
  | cons s L ih =>
    rw [List.flatten_cons, List.length_append, ih (fun x hx => h x (List.mem_cons_of_mem _ hx)), h s (List.mem_cons_self ..), List.length_cons]; omega
theorem flat_at {L : List Sec} (h : secsOk L) {i : Nat} {s : Sec} (hs : L[i]? = some s) : (L.flatten.drop (i * 128)).take 128 = s := by
  induction L generalizing i with
  | nil => simp at hs
  | cons t L ih =>
    have ht := h t (List.mem_cons_self ..)
    cases i with
    | zero =>
      have : t = s := by simpa using hs
      rw [Nat.zero_mul, List.drop_zero, List.flatten_cons, this, List.take_left' (this ▸ ht)]
    | succ i =>
      have hs' : L[i]? = some s := by simpa using hs
      rw [List.flatten_cons, show (i + 1) * 128 = t.length + i * 128 by omega, List.drop_append, show (t.drop (t.length + i * 128)) = [] from List.drop_of_length_le (by omega), List.nil_append, show t.length + i * 128 - t.length = i * 128 by omega]
      exact ih (fun x hx => h x (List.mem_cons_of_mem _ hx)) hs'
theorem flat_set {L : List Sec} (h : secsOk L) {i : Nat} {s : Sec} (hi : i < L.length) (hs : s.length = 128) : splice (bv L.flatten) (i * 128) (bv s) = bv (L.set i s).flatten := by
  have e : ∀ (L : List Sec) (i : Nat), secsOk L → i < L.length → (L.set i s).flatten = L.flatten.take (i * 128) ++ (s ++ L.flatten.drop (i * 128 + 128)) := by
    intro L
    induction L with
    | nil => intro i _ h; simp at h
    | cons t L ih =>
      intro i h hi
      have ht := h t (List.mem_cons_self ..)
      cases i with
      | zero =>
        rw [List.set_cons_zero, List.flatten_cons, List.flatten_cons, Nat.zero_mul, List.take_zero, List.nil_append, Nat.zero_add, List.drop_left' ht]
      | succ i =>
        have ih' := ih i (fun x hx => h x (List.mem_cons_of_mem _ hx)) (by simpa using hi)
        have e1 : ∀ (X : List UInt8) (k : Nat), (t ++ X).take (t.length + k) = t ++ X.take k := fun X k => by rw [List.take_append, List.take_of_length_le (l := t) (Nat.le_add_right _ _), Nat.add_sub_cancel_left]
        have e2 : ∀ (X : List UInt8) (k : Nat), (t ++ X).drop (t.length + k) = X.drop k := fun X k => by rw [List.drop_append, List.drop_of_length_le (l := t) (Nat.le_add_right _ _), Nat.add_sub_cancel_left, List.nil_append]
        rw [List.set_cons_succ, List.flatten_cons, ih', List.flatten_cons, show (i + 1) * 128 = t.length + i * 128 by omega, show t.length + i * 128 + 128 = t.length + (i * 128 + 128) by omega, e1, e2, List.append_assoc]
  rw [e L i h hi]
  simp only [splice, bv, List.map_append, List.map_take, List.map_drop, List.length_map, hs]
theorem secsOk.set {L : List Sec} (h : secsOk L) {i : Nat} {s : Sec} (hs : s.length = 128) : secsOk (L.set i s) := fun x hx => by
  rcases List.mem_or_eq_of_mem_set hx with e | e
  · exact h x e
  · rw [e]; exact hs
def lastsD (D : Dk) : List Sec := D.V.map headS
theorem lasts_ok {D : Dk} (h : DkOk D) : secsOk (lastsD D) := fun s hs => by
  obtain ⟨v, hv, rfl⟩ := List.mem_map.1 hs
  obtain ⟨a, l, rfl⟩ := List.exists_cons_of_ne_nil (h.ne v hv)
  exact h.sec _ hv a (List.mem_cons_self ..)
theorem ver_at {D : Dk} {i : Nat} (hi : i < D.V.length) : D.V[i]? = some (ver D i) := by
  rw [ver, List.getD_eq_getElem?_getD, List.getElem?_eq_getElem hi]; rfl
theorem ver_ok {D : Dk} (h : DkOk D) {i : Nat} (hi : i < D.V.length) : ver D i ≠ [] ∧ secsOk (ver D i) ∧ (ver D i).length ≤ 100000 := by
  have hm := List.mem_of_getElem? (ver_at hi)
  exact ⟨h.ne _ hm, h.sec _ hm, h.short _ hm⟩
theorem lasts_at {D : Dk} {i : Nat} (hi : i < D.V.length) : (lastsD D)[i]? = some (headS (ver D i)) := by
  rw [lastsD, List.getElem?_map, ver_at hi]; rfl
theorem tail_ok {v : List Sec} (h : secsOk v) : secsOk v.tail := fun s hs => h s (List.mem_of_mem_tail hs)
theorem lastS_ok {v : List Sec} (h : secsOk v) : (lastS v).length = 128 := by
  unfold lastS
  rcases List.eq_nil_or_concat v with rfl | ⟨l, s, rfl⟩
  · simp [zeroS]
  · rw [List.concat_eq_append] at h ⊢
    rw [List.getLastD_concat]
    exact h s (by simp)
theorem headS_ok {v : List Sec} (h : secsOk v) : (headS v).length = 128 := by
  cases v with
  | nil => simp [headS, zeroS]
  | cons s l => exact h s (List.mem_cons_self ..)
/-- What is read of a sector: the last version written since, else what lasts. -/
theorem lastS_tail {v : List Sec} (h : 1 < v.length) : v.tail[v.length - 2]? = some (lastS v) := by
  rcases List.eq_nil_or_concat v with rfl | ⟨l, s, rfl⟩
  · simp at h
  · rw [List.concat_eq_append] at h ⊢
    cases l with
    | nil => simp at h
    | cons a l =>
      rw [lastS, List.getLastD_concat]
      simp
theorem lastS_one {v : List Sec} (h : v.length = 1) : lastS v = headS v := by
  obtain ⟨a, rfl⟩ := List.length_eq_one_iff.1 h
  rfl
end Go.Proofs.Ytpndhildmfmcgaa
