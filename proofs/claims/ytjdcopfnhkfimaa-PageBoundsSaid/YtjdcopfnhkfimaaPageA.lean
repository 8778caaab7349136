/- A page, plainly: what it has, and its bytes. -/
import Derived.Test.YtjdcopfnhkfimaaVm13
namespace Go.Proofs.Ytjdcopfnhkfimaa
open Go Go.RowKit Coup

/-- What a page has. -/
structure View where
  kind : Nat
  next : Nat
  slots : List (Option (List UInt8))
def u8 (n : Nat) : UInt8 := UInt8.ofNat n
theorem u8_nat {n : Nat} (h : n < 256) : (u8 n).toNat = n := by unfold u8; rw [UInt8.toNat_ofNat']; omega
def be2 (n : Nat) : List UInt8 := [u8 (n / 256), u8 (n % 256)]
def be4 (n : Nat) : List UInt8 := [u8 (n / 16777216), u8 (n / 65536 % 256), u8 (n / 256 % 256), u8 (n % 256)]
def bod (s : Option (List UInt8)) : List UInt8 := s.getD []
def tailB : List (Option (List UInt8)) → List UInt8
  | [] => []
  | s :: S => tailB S ++ bod s
def lenS : List (Option (List UInt8)) → Nat
  | [] => 0
  | s :: S => (bod s).length + lenS S
theorem tailB_len : ∀ S, (tailB S).length = lenS S
  | [] => rfl
  | s :: S => by rw [tailB, List.length_append, tailB_len S, lenS]; omega
theorem tailB_snoc : ∀ S s, tailB (S ++ [s]) = bod s ++ tailB S
  | [], s => by simp [tailB]
  | t :: S, s => by simp [tailB, tailB_snoc S s]
theorem lenS_app : ∀ S T, lenS (S ++ T) = lenS S + lenS T
  | [], T => by simp [lenS]
  | s :: S, T => by simp [lenS, lenS_app S T]; omega
def ent (e : Nat) : Option (List UInt8) → List UInt8
  | none => [0, 0, 0, 0]
  | some r => be2 (e - r.length) ++ be2 r.length
theorem ent_len (e : Nat) (s : Option (List UInt8)) : (ent e s).length = 4 := by cases s <;> rfl
def dirB : Nat → List (Option (List UInt8)) → List UInt8
  | _, [] => []
  | e, s :: S => ent e s ++ dirB (e - (bod s).length) S
theorem dirB_len : ∀ e S, (dirB e S).length = 4 * S.length
  | _, [] => rfl
  | e, s :: S => by rw [dirB, List.length_append, ent_len, dirB_len _ S, List.length_cons]; omega
theorem dirB_snoc : ∀ e S s, dirB e (S ++ [s]) = dirB e S ++ ent (e - lenS S) s
  | e, [], s => by simp [dirB, lenS]
  | e, t :: S, s => by
    simp only [List.cons_append, dirB, dirB_snoc _ S s, lenS, List.append_assoc]
    rw [show e - (bod t).length - lenS S = e - ((bod t).length + lenS S) by omega]
def sizeV (V : View) : Nat := 12 + 4 * V.slots.length + lenS V.slots
/-- What stands ahead: with or without where the records begin. -/
def frontB (V : View) (e : List UInt8) : List UInt8 := [u8 V.kind, 0] ++ be2 V.slots.length ++ e ++ [0, 0] ++ be4 V.next
/-- The page as far as the first i slots are laid. -/
def partB (V : View) (e : List UInt8) (S : List (Option (List UInt8))) : List UInt8 := frontB V e ++ dirB 512 S ++ List.replicate (500 - 4 * S.length - lenS S) 0 ++ tailB S
def bytesV (V : View) : List UInt8 := partB V (be2 (512 - lenS V.slots)) V.slots
theorem partB_len {V : View} {e : List UInt8} {S : List (Option (List UInt8))} (he : e.length = 2) (h : 12 + 4 * S.length + lenS S ≤ 512) : (partB V e S).length = 512 := by
  simp [partB, frontB, be2, be4, dirB_len, tailB_len, he]; omega
structure Good (V : View) : Prop where
  kind : V.kind ≤ 4
  next : V.next < 2147483648
  size : sizeV V ≤ 512
  cell : ∀ r, some r ∈ V.slots → r.length ≤ 400
  last : V.slots.getLast? ≠ some none
/-! ### What is read off -/
theorem get_front {V : View} {e : List UInt8} (he : e.length = 2) {S : List (Option (List UInt8))} {i : Nat} (h : i < 12) : (partB V e S)[i]? = (frontB V e)[i]? := by
  unfold partB
  have hl : (frontB V e).length = 12 := by simp [frontB, be2, be4, he]
  rw [List.append_assoc, List.append_assoc, List.getElem?_append_left (by omega)]
theorem get_ent (V : View) (e : List UInt8) (he : e.length = 2) (S T : List (Option (List UInt8))) (s : Option (List UInt8)) (k : Nat) (hk : k < 4) :
    (partB V e (S ++ s :: T))[12 + 4 * S.length + k]? = (ent (512 - lenS S) s)[k]? := by
  have hl : (frontB V e).length = 12 := by simp [frontB, be2, be4, he]
  have hd : ∀ (S : List (Option (List UInt8))) (e : Nat), dirB e (S ++ s :: T) = dirB e S ++ (ent (e - lenS S) s ++ dirB (e - lenS S - (bod s).length) T) := by
    intro S
    induction S with
    | nil => intro e; simp [dirB, lenS]
    | cons t S ih =>
      intro e
      simp only [List.cons_append, dirB, ih, lenS, List.append_assoc]
      rw [show e - (bod t).length - lenS S = e - ((bod t).length + lenS S) by omega]
  unfold partB
  rw [hd, List.append_assoc, List.append_assoc, List.getElem?_append_right (by omega), hl, show 12 + 4 * S.length + k - 12 = 4 * S.length + k by omega,
    List.append_assoc, List.getElem?_append_right (by rw [dirB_len]; omega), dirB_len, show 4 * S.length + k - 4 * S.length = k by omega, List.append_assoc, List.getElem?_append_left (by rw [ent_len]; exact hk)]
theorem get_rec (V : View) (e : List UInt8) (he : e.length = 2) (S T : List (Option (List UInt8))) (r : List UInt8) (hs : 12 + 4 * (S ++ some r :: T).length + lenS (S ++ some r :: T) ≤ 512) :
    ((partB V e (S ++ some r :: T)).drop (512 - lenS S - r.length)).take r.length = r := by
  have hl : (frontB V e).length = 12 := by simp [frontB, be2, be4, he]
  have ht : ∀ (S : List (Option (List UInt8))), tailB (S ++ some r :: T) = tailB T ++ (r ++ tailB S) := by
    intro S
    induction S with
    | nil => simp [tailB, bod]
    | cons t S ih => simp [tailB, ih]
  have hls : lenS (S ++ some r :: T) = lenS S + (r.length + lenS T) := by rw [lenS_app]; rfl
  rw [hls] at hs
  unfold partB
  rw [ht, hls]
  have hd : (dirB 512 (S ++ some r :: T)).length = 4 * (S.length + (T.length + 1)) := by rw [dirB_len]; simp
  have hA : (frontB V e ++ dirB 512 (S ++ some r :: T) ++ List.replicate (500 - 4 * (S ++ some r :: T).length - (lenS S + (r.length + lenS T))) 0 ++ tailB T).length = 512 - lenS S - r.length := by
    rw [List.length_append, List.length_append, List.length_append, hl, hd, List.length_replicate, tailB_len]
    simp at hs ⊢; omega
  rw [← List.append_assoc (bs := tailB T), List.drop_left' hA, List.take_left]
/-! ### Writing -/
theorem splice_mid {α : Type} (A B C D : List α) (h : B.length = D.length) : (A ++ B ++ C).take A.length ++ D ++ (A ++ B ++ C).drop (A.length + D.length) = A ++ D ++ C := by
  have e1 : (A ++ B ++ C).take A.length = A := by rw [List.append_assoc, List.take_left]
  have e2 : (A ++ B ++ C).drop (A.length + D.length) = C := by rw [← h, ← List.length_append, List.drop_left]
  rw [e1, e2]
theorem rep_split (a b c : Nat) : List.replicate (a + b + c) (0 : UInt8) = List.replicate a 0 ++ List.replicate b 0 ++ List.replicate c 0 := by
  rw [List.replicate_append_replicate, List.replicate_append_replicate]
theorem set4 (A Z : List UInt8) (x0 x1 x2 x3 a b c d : UInt8) (n : Nat) (h : n = A.length) :
    ((((A ++ x0 :: x1 :: x2 :: x3 :: Z).set n a).set (n + 1) b).set (n + 2) c).set (n + 3) d = A ++ a :: b :: c :: d :: Z := by
  subst h
  rw [List.set_append_right _ _ (by omega), List.set_append_right _ _ (by omega), List.set_append_right _ _ (by omega), List.set_append_right _ _ (by omega)]
  rw [Nat.sub_self, show A.length + 1 - A.length = 1 by omega, show A.length + 2 - A.length = 2 by omega, show A.length + 3 - A.length = 3 by omega]
  rfl
theorem rep4 (n : Nat) (h : 4 ≤ n) : List.replicate n (0 : UInt8) = 0 :: 0 :: 0 :: 0 :: List.replicate (n - 4) 0 := by
  obtain ⟨m, rfl⟩ : ∃ m, n = m + 4 := ⟨n - 4, by omega⟩
  rfl
theorem front_len {V : View} {e : List UInt8} (he : e.length = 2) : (frontB V e).length = 12 := by simp [frontB, be2, be4, he]
theorem partB_none (V : View) (e : List UInt8) (S : List (Option (List UInt8))) (h : 12 + 4 * (S.length + 1) + lenS S ≤ 512) : partB V e (S ++ [none]) = partB V e S := by
  unfold partB
  rw [dirB_snoc, tailB_snoc, lenS_app, List.length_append]
  show frontB V e ++ (dirB 512 S ++ [0, 0, 0, 0]) ++ List.replicate (500 - 4 * (S.length + 1) - (lenS S + (0 + 0))) 0 ++ ([] ++ tailB S) = _
  rw [List.nil_append, rep4 (500 - 4 * S.length - lenS S) (by omega), show 500 - 4 * S.length - lenS S - 4 = 500 - 4 * (S.length + 1) - (lenS S + (0 + 0)) by omega]
  simp only [List.append_assoc, List.cons_append, List.nil_append]
/-- The page with the record's bytes, its entry not yet. -/
def midB (V : View) (e : List UInt8) (S : List (Option (List UInt8))) (r : List UInt8) : List UInt8 :=
  frontB V e ++ dirB 512 S ++ List.replicate (500 - 4 * S.length - lenS S - r.length) 0 ++ (r ++ tailB S)
theorem partB_mid (V : View) (e : List UInt8) (he : e.length = 2) (S : List (Option (List UInt8))) (r : List UInt8) (h : 12 + 4 * S.length + lenS S + r.length ≤ 512) :
    (partB V e S).take (512 - lenS S - r.length) ++ (r ++ (partB V e S).drop (512 - lenS S - r.length + r.length)) = midB V e S r := by
  have e1 : partB V e S = (frontB V e ++ dirB 512 S ++ List.replicate (500 - 4 * S.length - lenS S - r.length) 0) ++ List.replicate r.length 0 ++ tailB S := by
    unfold partB
    rw [show 500 - 4 * S.length - lenS S = (500 - 4 * S.length - lenS S - r.length) + r.length by omega, ← List.replicate_append_replicate, Nat.add_sub_cancel]
    simp only [List.append_assoc]
  have hl : (frontB V e ++ dirB 512 S ++ List.replicate (500 - 4 * S.length - lenS S - r.length) (0 : UInt8)).length = 512 - lenS S - r.length := by
    rw [List.length_append, List.length_append, front_len he, dirB_len, List.length_replicate]; omega
  have h2 := splice_mid (frontB V e ++ dirB 512 S ++ List.replicate (500 - 4 * S.length - lenS S - r.length) 0) (List.replicate r.length 0) (tailB S) r (by rw [List.length_replicate])
  rw [hl, ← e1] at h2
  rw [← List.append_assoc, h2, midB]
  simp only [List.append_assoc]
theorem mid_len (V : View) (e : List UInt8) (he : e.length = 2) (S : List (Option (List UInt8))) (r : List UInt8) (h : 12 + 4 * S.length + lenS S + r.length ≤ 512) : (midB V e S r).length = 512 := by
  rw [midB, List.length_append, List.length_append, List.length_append, List.length_append, front_len he, dirB_len, List.length_replicate, tailB_len]; omega
theorem partB_some (V : View) (e : List UInt8) (he : e.length = 2) (S : List (Option (List UInt8))) (r : List UInt8) (h : 12 + 4 * (S.length + 1) + lenS S + r.length ≤ 512) (a b c d : UInt8) (ha : [a, b, c, d] = ent (512 - lenS S) (some r)) :
    ((((midB V e S r).set (12 + 4 * S.length) a).set (12 + 4 * S.length + 1) b).set (12 + 4 * S.length + 2) c).set (12 + 4 * S.length + 3) d = partB V e (S ++ [some r]) := by
  have e1 : midB V e S r = (frontB V e ++ dirB 512 S) ++ 0 :: 0 :: 0 :: 0 :: (List.replicate (500 - 4 * S.length - lenS S - r.length - 4) 0 ++ (r ++ tailB S)) := by
    rw [midB, rep4 _ (by omega)]
    simp only [List.append_assoc, List.cons_append]
  rw [e1, set4 _ _ _ _ _ _ _ _ _ _ _ (by rw [List.length_append, front_len he, dirB_len])]
  unfold partB
  rw [dirB_snoc, tailB_snoc, lenS_app, List.length_append, ← ha]
  show _ = frontB V e ++ (dirB 512 S ++ [a, b, c, d]) ++ List.replicate (500 - 4 * (S.length + 1) - (lenS S + (r.length + 0))) 0 ++ (r ++ tailB S)
  rw [show 500 - 4 * S.length - lenS S - r.length - 4 = 500 - 4 * (S.length + 1) - (lenS S + (r.length + 0)) by omega]
  simp only [List.append_assoc, List.cons_append, List.nil_append]
theorem partB_end (V : View) (S : List (Option (List UInt8))) (a b : UInt8) : ((partB V [0, 0] S).set 4 a).set 5 b = partB V [a, b] S := by
  simp only [partB, frontB, be2, be4, List.append_assoc, List.cons_append, List.nil_append]
  rfl
theorem splice_bv (L r : List UInt8) (k : Nat) : splice (bv L) k (bv r) = bv (L.take k ++ (r ++ L.drop (k + r.length))) := by
  simp only [splice, bv, List.map_append, List.map_take, List.map_drop, List.length_map, List.append_assoc]
end Go.Proofs.Ytjdcopfnhkfimaa
