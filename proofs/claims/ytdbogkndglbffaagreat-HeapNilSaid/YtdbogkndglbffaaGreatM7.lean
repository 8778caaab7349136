import Derived.Test.YtdbogkndglbffaaGreatM6
import Derived.Test.YtdbogkndglbffaaGreatM5
import Derived.Test.YtdbogkndglbffaaGreatM1
import Derived.Test.YtdbogkndglbffaaGreatM3
import Derived.Maps.RangeWalk
namespace Go.Proofs.YtdbogkndglbffaaGreat
open Go Go.RowKit Coup
def znX (H : HS) (rl : List Nat) (i out : Nat) : HS := ⟨⟨H.F.fresh, H.F.free, H.F.many, if i = 0 then (H.S out).next else H.F.records, H.F.root⟩, zdW H.S rl i out⟩
def lastOf (rl : List Nat) (k : Nat) : Nat := if k = 0 then 0 else rl.getD (k - 1) 0
theorem znM {U : View} (h : Good U) {m : Nat} (hm : m < 2147483648) : Good { U with next := m } := ⟨h.kind, hm, h.size, h.cell, h.last⟩
theorem zcg.next_lt {H : HS} {rl : List Nat} (hR : znH H rl) {i out : Nat} (hi : rl[i]? = some out) (h1 : 1 ≤ H.F.fresh) : (H.S out).next < H.F.fresh := by
 have hil := (List.getElem?_eq_some_iff.1 hi).1
 obtain ⟨m, h2, h3⟩ := hR.ch.drop hil
 have e : m = out := by rw [hi] at h2; exact (Option.some.inj h2).symm
 subst e
 have hd := List.drop_eq_getElem_cons hil
 rw [hd] at h3
 have e2 : rl[i] = m := by rw [List.getElem?_eq_getElem hil] at hi; exact Option.some.inj hi
 rw [e2] at h3
 have h4 := h3.2.2
 cases hq : rl.drop (i + 1) with
 | nil => rw [hq] at h4; have h5 : (H.S m).next = 0 := h4; omega
 | cons x t =>
  rw [hq] at h4
  have hx : x ∈ rl := List.mem_of_mem_drop (i := i + 1) (by rw [hq]; simp)
  have := hR.at_ x hx
  rw [h4.1]; exact this.2.1
theorem unlS_ok {N : Nat} {H : HS} {fl rl : List Nat} {i out : Nat} (h : HOk N H fl) (hR : znH H rl) (hi : rl[i]? = some out) (hN : N ≤ 2048) : HOk N (znX H rl i out) fl := by
 have hnx := zcg.next_lt hR hi h.f1
 have hfN := h.fN
 have hfs : ∀ m, zdW H.S rl i out m = H.S m ∨ (m ∈ rl ∧ zdW H.S rl i out m = { H.S m with next := (H.S out).next }) := fun m => by
  unfold zdW
  split
  ·exact .inl rfl
  ·unfold zba
   split
   ·rename_i hne e
    refine .inr ⟨?_, by rw [e]⟩
    have hil := (List.getElem?_eq_some_iff.1 hi).1
    rw [e, List.getD_eq_getElem?_getD, List.getElem?_eq_getElem (show i - 1 < rl.length by omega)]
    exact List.getElem_mem _
   ·exact .inl rfl
 refine ⟨h.f1, h.fN, fun n h1 h2 => ?_, h.ch.frame fun m hm => ?_, fun n hn => ?_, h.nd, h.fm, ?_, h.rt⟩
 ·show Good (zdW H.S rl i out n)
  rcases hfs n with e | ⟨_, e⟩
  ·rw [e]; exact h.gd n h1 h2
  ·rw [e]; exact znM (h.gd n h1 h2) (by omega)
 ·show zdW H.S rl i out m = H.S m
  rcases hfs m with e | ⟨hm2, _⟩
  ·exact e
  ·exact absurd hm (hR.ni h hm2)
 ·have h1 := h.fk n hn
  refine ⟨h1.1, h1.2.1, ?_⟩
  show (zdW H.S rl i out n).kind = 0
  rw [(zgU ..).1]; exact h1.2.2
 ·show (if i = 0 then (H.S out).next else H.F.records) < H.F.fresh
  split
  ·exact hnx
  ·exact h.rc
section
variable {Y : World → List Nat → Prop} [hYT : Thing Y] {q jb mw N lo : Nat} {L : List Nat} {G0 V : Nat → Pg} {k : Nat} {H : HS} {fl : List Nat} {w : World}
end
theorem zlf {j : Nat} {r : List UInt8} : ∀ (n : Nat) (S : List (Option (List UInt8))), S.length = n → ((trimS S)[j]? = some (some r) ↔ S[j]? = some (some r))
 | 0, S, h => by rw [List.eq_nil_of_length_eq_zero h]; rfl
 | n + 1, S, h => by
  rcases List.eq_nil_or_concat S with rfl | ⟨T, s, rfl⟩
  ·rfl
  ·rw [List.concat_eq_append] at h ⊢
   cases s with
   | none =>
    rw [zkO, zlf n T (by simpa using h)]
    by_cases hj : j < T.length
    ·rw [List.getElem?_append_left hj]
    ·rw [List.getElem?_append_right (by omega), List.getElem?_eq_none (by omega)]
     cases hk : j - T.length with
     | zero => simp
     | succ k => simp
   | some q => rw [ziJ]
theorem wtV_at {V : View} {i j : Nat} {r : List UInt8} : (wtV V i).slots[j]? = some (some r) ↔ j ≠ i ∧ V.slots[j]? = some (some r) := by
 show (trimS (V.slots.set i none))[j]? = _ ↔ _
 rw [zlf _ _ rfl, List.getElem?_set]
 by_cases h : i = j
 ·rw [if_pos h]
  split
  ·constructor
   ·intro e; cases e
   ·intro e; exact absurd h.symm e.1
  ·constructor
   ·intro e; cases e
   ·intro e; exact absurd h.symm e.1
 ·rw [if_neg h]; exact ⟨fun e => ⟨fun e2 => h e2.symm, e⟩, fun e => e.2⟩
theorem zoS {V : View} (hV : Good V) (i : Nat) : Good (wtV V i) := by
 obtain ⟨k, h1, h2, h3, _⟩ := ziK (V.slots.set i none)
 refine ⟨hV.kind, hV.next, Nat.le_trans (zof V i) hV.size, fun r hr => ?_, ?_⟩
 ·have h5 : some r ∈ trimS (V.slots.set i none) := hr
  rw [h2] at h5
  rcases List.mem_or_eq_of_mem_set (List.mem_of_mem_take h5) with h | h
  ·exact hV.cell r h
  ·cases h
 ·show (trimS (V.slots.set i none)).getLast? ≠ some none
  rw [h2]; exact h3
theorem setS_at {S : List (Option (List UInt8))} {i j : Nat} {r : List UInt8} (hi : i ≤ S.length) : (ziI S i r)[j]? = if j = i then some (some r) else S[j]? := by
 unfold ziI
 split
 ·rename_i e
  by_cases hj : j = i
  ·rw [if_pos hj, List.getElem?_append_right (by omega), show j - S.length = 0 by omega]; rfl
  ·rw [if_neg hj]
   by_cases hl : j < S.length
   ·rw [List.getElem?_append_left hl]
   ·rw [List.getElem?_append_right (by omega), List.getElem?_eq_none (by simp; omega), List.getElem?_eq_none (by omega)]
 ·rw [List.getElem?_set]
  by_cases hj : j = i
  ·rw [if_pos hj.symm, if_pos hj, if_pos (by omega)]
  ·rw [if_neg (fun e => hj e.symm), if_neg hj]
def CellIs (H : HS) (c b : List UInt8) (l : List Nat) : Prop := (b.length < 400 ∧ c = 0 :: b ∧ l = []) ∨ ∃ x, x < 2048 ∧ c = 1 :: (beB 4 b.length ++ beB 4 x) ∧ zeJ H x l b
theorem zeJ.frame {H H' : HS} {x : Nat} {l : List Nat} {b : List UInt8} (h : zeJ H x l b) (hf : H.F.fresh ≤ H'.F.fresh) (he : ∀ m ∈ l, H'.S m = H.S m) : zeJ H' x l b :=
 ⟨h.ch.frame he, fun m hm => by have := h.at_ m hm; rw [he m hm]; exact ⟨this.1, by omega, this.2.2⟩, fun i m hm => by rw [he m (List.mem_of_getElem? hm)]; exact h.sl i m hm, h.nd, h.b1, h.b2, h.nl⟩
theorem CellIs.frame {H H' : HS} {c b : List UInt8} {l : List Nat} (h : CellIs H c b l) (hf : H.F.fresh ≤ H'.F.fresh) (he : ∀ m ∈ l, H'.S m = H.S m) : CellIs H' c b l := by
 rcases h with h | ⟨x, h0, h1, h2⟩
 ·exact .inl h
 ·exact .inr ⟨x, h0, h1, h2.frame hf he⟩
theorem CellIs.at_ {H : HS} {c b : List UInt8} {l : List Nat} (h : CellIs H c b l) : l.Nodup ∧ ∀ n ∈ l, 1 ≤ n ∧ n < H.F.fresh ∧ (H.S n).kind = 2 := by
 rcases h with ⟨_, _, rfl⟩ | ⟨x, _, _, h2⟩
 ·exact ⟨List.nodup_nil, fun n hn => by cases hn⟩
 ·exact ⟨h2.nd, h2.at_⟩
structure HI (N : Nat) (H : HS) (fl rl : List Nat) (R : Nat → Nat → Prop) (P : Nat → Nat → List Nat) (B : Nat → Nat → List UInt8) (pd : List Nat) : Prop where
 ok : HOk N H fl
 rk : znH H rl
 cell : ∀ m s, R m s → m ∈ rl ∧ ∃ c, (H.S m).slots[s]? = some (some c) ∧ CellIs H c (B m s) (P m s)
 ap : ∀ m s m' s' n, R m s → R m' s' → n ∈ P m s → n ∈ P m' s' → m = m' ∧ s = s'
 pk : ∀ n ∈ pd, 1 ≤ n ∧ n < H.F.fresh ∧ (H.S n).kind = 2 ∧ ∀ m s, R m s → n ∉ P m s
 c0 : ∀ n, 1 ≤ n → n < H.F.fresh → (H.S n).kind = 0 → n ∈ fl
 c1 : ∀ n, 1 ≤ n → n < H.F.fresh → (H.S n).kind = 1 → n ∈ rl
 c2 : ∀ n, 1 ≤ n → n < H.F.fresh → (H.S n).kind = 2 → n ∈ pd ∨ ∃ m s, R m s ∧ n ∈ P m s
def Full (H : HS) (rl : List Nat) (R : Nat → Nat → Prop) : Prop := ∀ m ∈ rl, (H.S m).slots ≠ [] ∧ ∀ s c, (H.S m).slots[s]? = some (some c) → R m s
def zl2 (R : Nat → Nat → Prop) (m s : Nat) : Nat → Nat → Prop := fun a b => R a b ∧ ¬ (a = m ∧ b = s)
def zl3 (R : Nat → Nat → Prop) (m s : Nat) : Nat → Nat → Prop := fun a b => R a b ∨ (a = m ∧ b = s)
def up2 {α : Type} (f : Nat → Nat → α) (m s : Nat) (v : α) : Nat → Nat → α := fun a b => if a = m ∧ b = s then v else f a b
theorem zeE {α : Type} (f : Nat → Nat → α) (m s : Nat) (v : α) : up2 f m s v m s = v := if_pos ⟨rfl, rfl⟩
theorem zgV {α : Type} {f : Nat → Nat → α} {m s a b : Nat} {v : α} (h : ¬ (a = m ∧ b = s)) : up2 f m s v a b = f a b := if_neg h
theorem znH.frame {H H' : HS} {rl : List Nat} (h : znH H rl) (hf : H.F.fresh ≤ H'.F.fresh) (hr : H'.F.records = H.F.records) (he : ∀ m ∈ rl, H'.S m = H.S m) : znH H' rl :=
 ⟨by rw [hr]; exact h.ch.frame he, fun m hm => by have := h.at_ m hm; rw [he m hm]; exact ⟨this.1, by omega, this.2.2⟩, h.nd⟩
theorem zgW {l : List Nat} : ∀ {H : HS} {n : Nat}, n ∈ l → ((zbT H l).S n).kind = 0 := by
 induction l with
 | nil => intro H n hn; cases hn
 | cons a l ih =>
  intro H n hn
  by_cases hm : n ∈ l
  ·exact ih (H := zd3 H a) hm
  ·have e : n = a := (List.mem_cons.1 hn).resolve_right hm
   subst e
   show ((zbT (zd3 H n) l).S n).kind = 0
   rw [zbQ hm]
   show (zba H.S n (zhc H.F) n).kind = 0
   rw [zaR]; rfl
namespace HI
variable {N : Nat} {H : HS} {fl rl pd : List Nat} {R : Nat → Nat → Prop} {P : Nat → Nat → List Nat} {B : Nat → Nat → List UInt8} {m s : Nat}
theorem pat (h : HI N H fl rl R P B pd) (hr : R m s) : (P m s).Nodup ∧ ∀ n ∈ P m s, 1 ≤ n ∧ n < H.F.fresh ∧ (H.S n).kind = 2 := (h.cell m s hr).2.elim fun _ hc => hc.2.at_
theorem pni (h : HI N H fl rl R P B pd) (hr : R m s) : ∀ n ∈ P m s, n ∉ fl ∧ n ∉ rl := fun n hn => by
 have h2 := ((h.pat hr).2 n hn).2.2
 refine ⟨fun hf => ?_, fun hf => ?_⟩
 ·have := (h.ok.fk n hf).2.2; omega
 ·have := (h.rk.at_ n hf).2.2; omega
theorem drop (h : HI N H fl rl R P B pd) (hN : N ≤ 2048) (hr : R m s) : HI N (zbT H (P m s)) ((P m s).reverse ++ fl) rl (zl2 R m s) P B pd := by
 obtain ⟨hnd, hat⟩ := h.pat hr
 have hni := h.pni hr
 have hF := zoQ (l := P m s) (H := H)
 have hother : ∀ a b, zl2 R m s a b → ∀ n ∈ P a b, n ∉ P m s := fun a b hab n hn hm => hab.2 (h.ap a b m s n hab.1 hr hn hm)
 have hrl : ∀ a ∈ rl, (zbT H (P m s)).S a = H.S a := fun a ha => zbQ fun hm => (hni a hm).2 ha
 refine ⟨h.ok.backs hN hnd fun n hn => ⟨(hat n hn).1, (hat n hn).2.1, (hni n hn).1⟩, h.rk.frame (Nat.le_of_eq hF.1.symm) hF.2.1 hrl, fun a b hab => ?_, fun a b a' b' n h1 h2 => h.ap a b a' b' n h1.1 h2.1, fun n hn => ?_, fun n h1 h2 hk => ?_, fun n h1 h2 hk => ?_, fun n h1 h2 hk => ?_⟩
 ·obtain ⟨h1, c, h2, h3⟩ := h.cell a b hab.1
  exact ⟨h1, c, by rw [hrl a h1]; exact h2, h3.frame (Nat.le_of_eq hF.1.symm) fun n hn => zbQ (hother a b hab n hn)⟩
 ·obtain ⟨h1, h2, h3, h4⟩ := h.pk n hn
  refine ⟨h1, by rw [hF.1]; exact h2, ?_, fun a b hab => h4 a b hab.1⟩
  rw [zbQ (h4 m s hr)]; exact h3
 ·by_cases hm : n ∈ P m s
  ·simp [hm]
  ·rw [zbQ hm] at hk
   rw [hF.1] at h2
   simp [h.c0 n h1 h2 hk]
 ·by_cases hm : n ∈ P m s
  ·rw [zgW hm] at hk; cases hk
  ·rw [zbQ hm] at hk
   rw [hF.1] at h2
   exact h.c1 n h1 h2 hk
 ·by_cases hm : n ∈ P m s
  ·rw [zgW hm] at hk; cases hk
  ·rw [zbQ hm] at hk
   rw [hF.1] at h2
   rcases h.c2 n h1 h2 hk with h3 | ⟨a, b, h3, h4⟩
   ·exact .inl h3
   ·refine .inr ⟨a, b, ⟨h3, fun e => hm ?_⟩, h4⟩
    rw [← e.1, ← e.2]; exact h4
theorem zio (h : HI N H fl rl R P B pd) (hm : m ∈ rl) {U : View} (hU : Good U) (hk : U.kind = 1) (hn : U.next = (H.S m).next) (hs : ∀ s c, R m s → (H.S m).slots[s]? = some (some c) → U.slots[s]? = some (some c)) : HI N ⟨H.F, zba H.S m U⟩ fl rl R P B pd := by
 have hmn := h.rk.ni h.ok hm
 have hma := h.rk.at_ m hm
 have hkd : ∀ n, (zba H.S m U n).kind = (H.S n).kind := fun n => by
  by_cases e : n = m
  ·rw [e, zaR, hk, hma.2.2]
  ·rw [zbh e]
 have hnx : ∀ n, (zba H.S m U n).next = (H.S n).next := fun n => by
  by_cases e : n = m
  ·rw [e, zaR, hn]
  ·rw [zbh e]
 have hch : ∀ {l : List Nat} {x : Nat}, zcg H.S x l → zcg (zba H.S m U) x l := by
  intro l
  induction l with
  | nil => exact fun h => h
  | cons a l ih => exact fun {x} h => ⟨h.1, h.2.1, ih (by rw [hnx]; exact h.2.2)⟩
 have hpm : ∀ a b, R a b → ∀ n ∈ P a b, zba H.S m U n = H.S n := fun a b hab n hn => zbh fun e => (h.pni hab n hn).2 (e ▸ hm)
 refine ⟨h.ok.set hmn hU, ⟨hch h.rk.ch, fun a ha => ?_, h.rk.nd⟩, fun a b hab => ?_, h.ap, fun n hn => ?_, fun n h1 h2 h3 => h.c0 n h1 h2 (by rw [← hkd]; exact h3), fun n h1 h2 h3 => h.c1 n h1 h2 (by rw [← hkd]; exact h3), fun n h1 h2 h3 => h.c2 n h1 h2 (by rw [← hkd]; exact h3)⟩
 ·have := h.rk.at_ a ha
  exact ⟨this.1, this.2.1, (hkd a).trans this.2.2⟩
 ·obtain ⟨h1, c, h2, h3⟩ := h.cell a b hab
  refine ⟨h1, c, ?_, h3.frame (Nat.le_refl _) (hpm a b hab)⟩
  show (zba H.S m U a).slots[b]? = _
  by_cases e : a = m
  ·subst e; rw [zaR]; exact hs b c hab h2
  ·rw [zbh e]; exact h2
 ·obtain ⟨h1, h2, h3, h4⟩ := h.pk n hn
  exact ⟨h1, h2, (hkd n).trans h3, h4⟩
end HI
theorem zkr {r : List UInt8} : ∀ {S : List (Option (List UInt8))}, S[zbK S]? ≠ some (some r)
 | [] => by simp [zbK]
 | none :: S => by
  have e : zbK (none :: S) = 0 := rfl
  rw [e]; simp
 | some q :: S => by
  have e : zbK (some q :: S) = zbK S + 1 := by simp [zbK, List.findIdx_cons]
  rw [e, List.getElem?_cons_succ]
  exact zkr (S := S)
theorem ze4 : ∀ {l : List Nat} {i m a : Nat}, l.Nodup → l[i]? = some m → (a ∈ l.eraseIdx i ↔ a ∈ l ∧ a ≠ m)
 | x :: l, 0, m, a, h, hi => by
  have e : x = m := by simpa using hi
  subst e
  have h2 := (List.nodup_cons.1 h).1
  show a ∈ l ↔ _
  constructor
  ·exact fun ha => ⟨List.mem_cons_of_mem _ ha, fun e => h2 (e ▸ ha)⟩
  ·exact fun ⟨ha, hn⟩ => (List.mem_cons.1 ha).resolve_left hn
 | x :: l, i + 1, m, a, h, hi => by
  have h2 := List.nodup_cons.1 h
  have hi2 : l[i]? = some m := by simpa using hi
  have ih := ze4 (a := a) h2.2 hi2
  have hxm : x ≠ m := fun e => h2.1 (e ▸ List.mem_of_getElem? hi2)
  show a ∈ x :: l.eraseIdx i ↔ _
  rw [List.mem_cons, List.mem_cons, ih]
  constructor
  ·rintro (e | ⟨h3, h4⟩)
   ·exact ⟨.inl e, e ▸ hxm⟩
   ·exact ⟨.inr h3, h4⟩
  ·rintro ⟨e | h3, h4⟩
   ·exact .inl e
   ·exact .inr ⟨h3, h4⟩
theorem zfw : ∀ {l : List Nat} {i : Nat}, l.Nodup → (l.eraseIdx i).Nodup
 | [], _, h => h
 | x :: l, 0, h => (List.nodup_cons.1 h).2
 | x :: l, i + 1, h => List.nodup_cons.2 ⟨fun hm => (List.nodup_cons.1 h).1 (List.mem_of_mem_eraseIdx hm), zfw (List.nodup_cons.1 h).2⟩
theorem znN : ∀ {l : List Nat} {m : Nat}, m ∈ l → l[l.idxOf m]? = some m
 | x :: l, m, h => by
  by_cases e : x = m
  ·subst e; rw [List.idxOf_cons_self]; rfl
  ·have h2 := (List.mem_cons.1 h).resolve_left (fun h => e h.symm)
   have e2 : (x :: l).idxOf m = l.idxOf m + 1 := by
    have e3 : (x == m) = false := by simpa using e
    simp [List.idxOf, List.findIdx_cons, e3]
   rw [e2, List.getElem?_cons_succ]
   exact znN h2
namespace HI
variable {N : Nat} {H : HS} {fl rl pd : List Nat} {R : Nat → Nat → Prop} {P : Nat → Nat → List Nat} {B : Nat → Nat → List UInt8} {m s : Nat}
theorem addC {c b : List UInt8} {l : List Nat} (h : HI N H fl rl R P B l) (hm : m ∈ rl) (hc : (H.S m).slots[s]? = some (some c)) (hl : CellIs H c b l) (hnr : ¬ R m s) : HI N H fl rl (zl3 R m s) (up2 P m s l) (up2 B m s b) [] := by
 refine ⟨h.ok, h.rk, fun a b hab => ?_, fun a b a' b' n h1 h2 h3 h4 => ?_, fun n hn => (by cases hn), h.c0, h.c1, fun n h1 h2 h3 => ?_⟩
 ·by_cases e : a = m ∧ b = s
  ·rw [e.1, e.2, zeE, zeE]; exact ⟨hm, c, hc, hl⟩
  ·rw [zgV e, zgV e]
   exact h.cell a b (hab.resolve_right e)
 ·by_cases e : a = m ∧ b = s
  ·by_cases e' : a' = m ∧ b' = s
   ·exact ⟨e.1.trans e'.1.symm, e.2.trans e'.2.symm⟩
   ·rw [e.1, e.2, zeE] at h3
    rw [zgV e'] at h4
    exact absurd h4 ((h.pk n h3).2.2.2 a' b' (h2.resolve_right e'))
  ·by_cases e' : a' = m ∧ b' = s
   ·rw [e'.1, e'.2, zeE] at h4
    rw [zgV e] at h3
    exact absurd h3 ((h.pk n h4).2.2.2 a b (h1.resolve_right e))
   ·rw [zgV e] at h3
    rw [zgV e'] at h4
    exact h.ap a b a' b' n (h1.resolve_right e) (h2.resolve_right e') h3 h4
 ·rcases h.c2 n h1 h2 h3 with h4 | ⟨a, b', h4, h5⟩
  ·exact .inr ⟨m, s, .inr ⟨rfl, rfl⟩, by rw [zeE]; exact h4⟩
  ·have e : ¬ (a = m ∧ b' = s) := fun e => hnr (e.1 ▸ e.2 ▸ h4)
   exact .inr ⟨a, b', .inl h4, by rw [zgV e]; exact h5⟩
theorem znO {S : Nat → View} {i out n : Nat} (hi : rl[i]? = some out) (hn : n ∉ rl) : zdW S rl i out n = S n := by
 have hil := (List.getElem?_eq_some_iff.1 hi).1
 unfold zdW
 split
 ·rfl
 ·refine zbh fun e => hn ?_
  rw [e, List.getD_eq_getElem?_getD, List.getElem?_eq_getElem (show i - 1 < rl.length by omega)]
  exact List.getElem_mem _
theorem unl (h : HI N H fl rl R P B pd) (hN : N ≤ 2048) {i : Nat} (hi : rl[i]? = some m) (hno : ∀ s, ¬ R m s) : HI N (zd3 (znX H rl i m) m) (m :: fl) (rl.eraseIdx i) R P B pd := by
 have hm := List.mem_of_getElem? hi
 have hma := h.rk.at_ m hm
 have hmn := h.rk.ni h.ok hm
 have hmem : ∀ a, a ∈ rl.eraseIdx i ↔ a ∈ rl ∧ a ≠ m := fun a => ze4 h.rk.nd hi
 have hS : ∀ n, n ≠ m → (zd3 (znX H rl i m) m).S n = zdW H.S rl i m n := fun n hn => zbh hn
 have hSm : (zd3 (znX H rl i m) m).S m = zhc (znX H rl i m).F := zaR ..
 have hkd : ∀ n, n ≠ m → ((zd3 (znX H rl i m) m).S n).kind = (H.S n).kind ∧ ((zd3 (znX H rl i m) m).S n).slots = (H.S n).slots := fun n hn => by rw [hS n hn]; exact zgU ..
 have hno2 : ∀ n, n ∉ rl → (zd3 (znX H rl i m) m).S n = H.S n := fun n hn => by rw [hS n fun e => hn (e ▸ hm)]; exact znO hi hn
 refine ⟨(unlS_ok h.ok h.rk hi hN).back hN hma.1 hma.2.1 hmn, ⟨?_, fun a ha => ?_, zfw h.rk.nd⟩, fun a b hab => ?_, h.ap, fun n hn => ?_, fun n h1 h2 h3 => ?_, fun n h1 h2 h3 => ?_, fun n h1 h2 h3 => ?_⟩
 ·exact (zcg.skip h.rk.ch h.rk.nd hi).set fun hm2 => ((hmem m).1 hm2).2 rfl
 ·have h2 := (hmem a).1 ha
  have h3 := h.rk.at_ a h2.1
  exact ⟨h3.1, h3.2.1, (hkd a h2.2).1.trans h3.2.2⟩
 ·obtain ⟨h1, c, h2, h3⟩ := h.cell a b hab
  have hne : a ≠ m := fun e => hno b (e ▸ hab)
  exact ⟨(hmem a).2 ⟨h1, hne⟩, c, by rw [(hkd a hne).2]; exact h2, h3.frame (Nat.le_refl _) fun n hn => hno2 n (h.pni hab n hn).2⟩
 ·obtain ⟨h1, h2, h3, h4⟩ := h.pk n hn
  refine ⟨h1, h2, ?_, h4⟩
  rw [hno2 n fun hr => by have := (h.rk.at_ n hr).2.2; omega]; exact h3
 ·by_cases e : n = m
  ·simp [e]
  ·rw [(hkd n e).1] at h3
   simp [h.c0 n h1 h2 h3]
 ·by_cases e : n = m
  ·rw [e, hSm] at h3; cases h3
  ·rw [(hkd n e).1] at h3
   exact (hmem n).2 ⟨h.c1 n h1 h2 h3, e⟩
 ·by_cases e : n = m
  ·rw [e, hSm] at h3; cases h3
  ·rw [(hkd n e).1] at h3
   exact h.c2 n h1 h2 h3
theorem parts (h : HI N H fl rl R P B []) (hN : N ≤ 2048) {b : List UInt8} {x : Nat} {H' : HS} (hb1 : 400 ≤ b.length) (hb2 : b.length ≤ 20000) (he : zcu N b ((b.length + 399) / 400) 0 H = some (x, H')) :
  ∃ l fl', HI N H' fl' rl R P B l ∧ zeJ H' x l b ∧ x < 2048 ∧ (∀ m ∈ rl, H'.S m = H.S m) ∧ H.F.fresh ≤ H'.F.fresh ∧ H'.F.root = H.F.root ∧ ∀ n, n < H.F.fresh → (H.S n).kind = 3 → H'.S n = H.S n := by
 obtain ⟨l, fl', r1, r2, r3, r4, r5, r6, r7, r8, r9, r10, r11, _⟩ := zgT hN h.ok (l := []) (nx := 0) ⟨rfl, fun m hm => (by cases hm), fun j m hm => (by simp at hm), List.nodup_nil⟩ (by omega) (fun m hm => by cases hm) he
 have hpx : zeJ H' x l b := ⟨r2.ch, r2.at_, fun i m hm => by rw [r2.sl i m hm, Nat.zero_add], r2.nd, hb1, hb2, by rw [r4]; rfl⟩
 have hx : x < 2048 := by
  cases hl : l with
  | nil => rw [hl] at r4; simp at r4; omega
  | cons m t =>
   have hch := r2.ch
   rw [hl] at hch
   have := (r2.at_ m (by rw [hl]; simp)).2.1
   have := r1.fN
   rw [hch.1]; omega
 have hrl : ∀ m ∈ rl, H'.S m = H.S m := fun m hm => r6 m (h.rk.ni h.ok hm) (h.rk.at_ m hm).2.1
 have hpl : ∀ a b, R a b → ∀ n ∈ P a b, H'.S n = H.S n ∧ n ∉ l := fun a b hab n hn => by
  have h1 := ((h.pat hab).2 n hn)
  have h2 := (h.pni hab n hn).1
  refine ⟨r6 n h2 h1.2.1, fun hm => ?_⟩
  rcases r10 n hm with e | e | e
  ·cases e
  ·exact h2 e
  ·omega
 have hsame : ∀ n, 1 ≤ n → n < H'.F.fresh → n ∉ l → n ∉ fl' → n < H.F.fresh ∧ H'.S n = H.S n := fun n h1 h2 h3 h4 => by
  rcases r11 n h2 with e | e | ⟨e1, e2⟩
  ·exact absurd e h3
  ·exact absurd e h4
  ·exact ⟨e2, r6 n e1 e2⟩
 refine ⟨l, fl', ⟨r1, h.rk.frame r7 r8 hrl, fun a b hab => ?_, h.ap, fun n hn => ?_, fun n h1 h2 h3 => ?_, fun n h1 h2 h3 => ?_, fun n h1 h2 h3 => ?_⟩, hpx, hx, hrl, r7, r9, fun n h1 h2 => r6 n (fun hf => by have := (h.ok.fk n hf).2.2; omega) h1⟩
 ·obtain ⟨h1, c, h2, h3⟩ := h.cell a b hab
  exact ⟨h1, c, by rw [hrl a h1]; exact h2, h3.frame r7 fun n hn => (hpl a b hab n hn).1⟩
 ·have := r2.at_ n hn
  exact ⟨this.1, this.2.1, this.2.2, fun a b hab hp => (hpl a b hab n hp).2 hn⟩
 ·by_cases hl : n ∈ l
  ·have := (r2.at_ n hl).2.2; omega
  ·by_cases hf : n ∈ fl'
   ·exact hf
   ·obtain ⟨e1, e2⟩ := hsame n h1 h2 hl hf
    rw [e2] at h3
    rcases r11 n h2 with e | e | ⟨e, _⟩
    ·exact absurd e hl
    ·exact e
    ·exact absurd (h.c0 n h1 e1 h3) e
 ·by_cases hl : n ∈ l
  ·have := (r2.at_ n hl).2.2; omega
  ·by_cases hf : n ∈ fl'
   ·have := (r1.fk n hf).2.2; omega
   ·obtain ⟨e1, e2⟩ := hsame n h1 h2 hl hf
    rw [e2] at h3
    exact h.c1 n h1 e1 h3
 ·by_cases hl : n ∈ l
  ·exact .inl hl
  ·by_cases hf : n ∈ fl'
   ·have := (r1.fk n hf).2.2; omega
   ·obtain ⟨e1, e2⟩ := hsame n h1 h2 hl hf
    rw [e2] at h3
    rcases h.c2 n h1 e1 h3 with h4 | ⟨a, b', h4, h5⟩
    ·cases h4
    ·exact .inr ⟨a, b', h4, h5⟩
theorem cellO (h : HI N H fl rl R P B []) (hN : N ≤ 2048) {b c : List UInt8} {H' : HS} (hb2 : b.length ≤ 20000) (he : cellS N b H = some (c, H')) :
  ∃ l fl', HI N H' fl' rl R P B l ∧ CellIs H' c b l ∧ (∀ m ∈ rl, H'.S m = H.S m) ∧ H.F.fresh ≤ H'.F.fresh ∧ H'.F.root = H.F.root ∧ ∀ n, n < H.F.fresh → (H.S n).kind = 3 → H'.S n = H.S n := by
 unfold cellS at he
 split at he
 ·rename_i hb
  cases he
  exact ⟨[], fl, h, .inl ⟨hb, rfl, rfl⟩, fun _ _ => rfl, Nat.le_refl _, rfl, fun _ _ _ => rfl⟩
 ·split at he
  ·cases he
  ·rename_i hb _ x H1 hx
   cases he
   obtain ⟨l, fl', h1, h2, h3, h4, h5, h6, h7⟩ := h.parts hN (by omega) hb2 hx
   exact ⟨l, fl', h1, .inr ⟨x, h3, rfl, h2⟩, h4, h5, h6, h7⟩
theorem _root_.Go.Proofs.YtdbogkndglbffaaGreat.CellIs.len {H : HS} {c b : List UInt8} {l : List Nat} (h : CellIs H c b l) : 1 ≤ c.length ∧ c.length ≤ 400 := by
 rcases h with ⟨h1, rfl, _⟩ | ⟨x, _, rfl, _⟩
 ·rw [List.length_cons]; omega
 ·rw [List.length_cons, List.length_append, zaQ, zaQ]; omega
theorem gave (h : HI N H fl rl R P B pd) {kind n : Nat} {H1 : HS} {fl1 : List Nat} (hg : zld N H fl kind n H1 fl1) {U : View} (hU : Good U) (rl' : List Nat) (hcase : (rl' = rl ∧ U.kind = 3) ∨ (rl' = n :: rl ∧ U.kind = 1 ∧ U.next = H.F.records)) :
  HI N ⟨⟨H1.F.fresh, H1.F.free, H1.F.many, if U.kind = 3 then H1.F.records else n, H1.F.root⟩, zba H1.S n U⟩ fl1 rl' R P B pd := by
 have hnrl : n ∉ rl := fun hm => by
  rcases hg.was with e | e
  ·exact h.rk.ni h.ok hm e
  ·have := (h.rk.at_ n hm).2.1; omega
 have hnpd : n ∉ pd := fun hm => by
  have hp := h.pk n hm
  rcases hg.was with e | e
  ·have := (h.ok.fk n e).2.2; omega
  ·omega
 have hnP : ∀ a b, R a b → n ∉ P a b := fun a b hab hm => by
  rcases hg.was with e | e
  ·exact (h.pni hab n hm).1 e
  ·have := ((h.pat hab).2 n hm).2.1; omega
 have hS : ∀ i, i ≠ n → zba H1.S n U i = H.S i := fun i hi => by rw [zbh hi]; exact hg.old i hi
 have hUk : U.kind = 3 ∨ U.kind = 1 := by rcases hcase with ⟨_, e⟩ | ⟨_, e, _⟩ <;> simp [e]
 have hch : zcg (zba H1.S n U) H.F.records rl := h.rk.ch.frame fun m hm => hS m fun e => hnrl (e ▸ hm)
 have hold : ∀ i, 1 ≤ i → i < H1.F.fresh → i ≠ n → i < H.F.fresh := fun i h1 h2 h3 => by rcases hg.fre with e | ⟨e, e2⟩ <;> omega
 have hok1 := hg.ok.set hg.ni hU
 refine ⟨⟨hok1.f1, hok1.fN, hok1.gd, hok1.ch, hok1.fk, hok1.nd, hok1.fm, ?_, hok1.rt⟩, ⟨?_, fun m hm => ?_, ?_⟩, fun a b hab => ?_, h.ap, fun i hi => ?_, fun i h1 h2 h3 => ?_, fun i h1 h2 h3 => ?_, fun i h1 h2 h3 => ?_⟩
 ·show (if U.kind = 3 then H1.F.records else n) < H1.F.fresh
  split
  ·exact hg.ok.rc
  ·exact hg.nf
 ·show zcg (zba H1.S n U) (if U.kind = 3 then H1.F.records else n) rl'
  rcases hcase with ⟨e, e2⟩ | ⟨e, e2, e3⟩
  ·rw [e, if_pos e2, hg.rec_]; exact hch
  ·rw [e, if_neg (by omega)]
   refine ⟨rfl, by have := hg.n1; omega, ?_⟩
   rw [zaR, e3]; exact hch
 ·show 1 ≤ m ∧ m < H1.F.fresh ∧ (zba H1.S n U m).kind = 1
  have hm2 : m = n ∧ U.kind = 1 ∨ m ∈ rl := by
   rcases hcase with ⟨e, e2⟩ | ⟨e, e2, _⟩
   ·rw [e] at hm; exact .inr hm
   ·rw [e] at hm; exact (List.mem_cons.1 hm).imp (fun e => ⟨e, e2⟩) id
  rcases hm2 with ⟨e, e2⟩ | hm2
  ·rw [e, zaR]; exact ⟨hg.n1, hg.nf, e2⟩
  ·have h3 := h.rk.at_ m hm2
   rw [hS m fun e => hnrl (e ▸ hm2)]
   exact ⟨h3.1, Nat.lt_of_lt_of_le h3.2.1 hg.grow, h3.2.2⟩
 ·rcases hcase with ⟨e, _⟩ | ⟨e, _, _⟩
  ·rw [e]; exact h.rk.nd
  ·rw [e]; exact List.nodup_cons.2 ⟨hnrl, h.rk.nd⟩
 ·obtain ⟨h1, c, h2, h3⟩ := h.cell a b hab
  refine ⟨by rcases hcase with ⟨e, _⟩ | ⟨e, _, _⟩ <;> simp [e, h1], c, ?_, h3.frame hg.grow fun i hi => hS i fun e => hnP a b hab (e ▸ hi)⟩
  show (zba H1.S n U a).slots[b]? = _
  rw [hS a fun e => hnrl (e ▸ h1)]; exact h2
 ·obtain ⟨h1, h2, h3, h4⟩ := h.pk i hi
  refine ⟨h1, Nat.lt_of_lt_of_le h2 hg.grow, ?_, h4⟩
  show (zba H1.S n U i).kind = 2
  rw [hS i fun e => hnpd (e ▸ hi)]; exact h3
 ·have h4 : (zba H1.S n U i).kind = 0 := h3
  by_cases e : i = n
  ·rw [e, zaR] at h4; omega
  ·rw [hS i e] at h4
   rcases hg.cov i (h.c0 i h1 (hold i h1 h2 e) h4) with e2 | e2
   ·exact absurd e2 e
   ·exact e2
 ·have h4 : (zba H1.S n U i).kind = 1 := h3
  by_cases e : i = n
  ·rw [e, zaR] at h4
   rcases hcase with ⟨_, e2⟩ | ⟨e2, _, _⟩
   ·omega
   ·rw [e2, e]; simp
  ·rw [hS i e] at h4
   have h5 := h.c1 i h1 (hold i h1 h2 e) h4
   rcases hcase with ⟨e2, _⟩ | ⟨e2, _, _⟩ <;> simp [e2, h5]
 ·have h4 : (zba H1.S n U i).kind = 2 := h3
  by_cases e : i = n
  ·rw [e, zaR] at h4; omega
  ·rw [hS i e] at h4
   exact h.c2 i h1 (hold i h1 h2 e) h4
theorem back (h : HI N H fl rl R P B pd) (hN : N ≤ 2048) {n : Nat} (h1 : 1 ≤ n) (h2 : n < H.F.fresh) (hk : (H.S n).kind = 3) : HI N (zd3 H n) (n :: fl) rl R P B pd := by
 have hnf : n ∉ fl := fun hf => by have := (h.ok.fk n hf).2.2; omega
 have hnr : n ∉ rl := fun hf => by have := (h.rk.at_ n hf).2.2; omega
 have hnP : ∀ a b, R a b → n ∉ P a b := fun a b hab hm => by have := ((h.pat hab).2 n hm).2.2; omega
 have hS : ∀ i, i ≠ n → (zd3 H n).S i = H.S i := fun i hi => zbh hi
 have hSn : (zd3 H n).S n = zhc H.F := zaR ..
 refine ⟨h.ok.back hN h1 h2 hnf, h.rk.frame (Nat.le_refl _) rfl fun m hm => hS m fun e => hnr (e ▸ hm), fun a b hab => ?_, h.ap, fun i hi => ?_, fun i h1 h2 h3 => ?_, fun i h1 h2 h3 => ?_, fun i h1 h2 h3 => ?_⟩
 ·obtain ⟨h3, c, h4, h5⟩ := h.cell a b hab
  exact ⟨h3, c, by rw [hS a fun e => hnr (e ▸ h3)]; exact h4, h5.frame (Nat.le_refl _) fun i hi => hS i fun e => hnP a b hab (e ▸ hi)⟩
 ·obtain ⟨h3, h4, h5, h6⟩ := h.pk i hi
  refine ⟨h3, h4, ?_, h6⟩
  rw [hS i fun e => by rw [e] at h5; omega]; exact h5
 ·by_cases e : i = n
  ·simp [e]
  ·rw [hS i e] at h3
   simp [h.c0 i h1 h2 h3]
 ·by_cases e : i = n
  ·rw [e, hSn] at h3; cases h3
  ·rw [hS i e] at h3; exact h.c1 i h1 h2 h3
 ·by_cases e : i = n
  ·rw [e, hSn] at h3; cases h3
  ·rw [hS i e] at h3; exact h.c2 i h1 h2 h3
end HI
def takeS (H : HS) (rl p : List Nat) (m s : Nat) : HS :=
 if (wtV (H.S m) s).slots.length = 0 then zd3 (znX ⟨(zbT H p).F, zba (zbT H p).S m (wtV (H.S m) s)⟩ rl (rl.idxOf m) m) m else ⟨(zbT H p).F, zba (zbT H p).S m (wtV (H.S m) s)⟩
def takeL (H : HS) (rl : List Nat) (m s : Nat) : List Nat := if (wtV (H.S m) s).slots.length = 0 then rl.eraseIdx (rl.idxOf m) else rl
def takeF (H : HS) (fl p : List Nat) (m s : Nat) : List Nat := if (wtV (H.S m) s).slots.length = 0 then m :: (p.reverse ++ fl) else p.reverse ++ fl
namespace HI
variable {N : Nat} {H : HS} {fl rl pd : List Nat} {R : Nat → Nat → Prop} {P : Nat → Nat → List Nat} {B : Nat → Nat → List UInt8} {m s : Nat}
theorem same (h : HI N H fl rl R P B pd) (hr : R m s) : (zbT H (P m s)).S m = H.S m := zbQ fun hm => (h.pni hr m hm).2 (h.cell m s hr).1
theorem wt (h : HI N H fl rl R P B pd) (hN : N ≤ 2048) (hr : R m s) : HI N ⟨(zbT H (P m s)).F, zba (zbT H (P m s)).S m (wtV (H.S m) s)⟩ ((P m s).reverse ++ fl) rl (zl2 R m s) P B pd := by
 obtain ⟨hm, c, hc, _⟩ := h.cell m s hr
 have hma := h.rk.at_ m hm
 have hsm := h.same hr
 exact (h.drop hN hr).zio hm (zoS (h.ok.gd m hma.1 hma.2.1) s) hma.2.2 (by rw [hsm]; rfl) fun s' c' hr' hs' => wtV_at.2 ⟨fun e => hr'.2 ⟨rfl, e⟩, by rw [hsm] at hs'; exact hs'⟩
theorem take (h : HI N H fl rl R P B pd) (hN : N ≤ 2048) (hF : Full H rl R) (hr : R m s) : HI N (takeS H rl (P m s) m s) (takeF H fl (P m s) m s) (takeL H rl m s) (zl2 R m s) P B pd ∧ Full (takeS H rl (P m s) m s) (takeL H rl m s) (zl2 R m s) := by
 have hw := h.wt hN hr
 have hm := (h.cell m s hr).1
 have hS : ∀ a, a ∈ rl → a ≠ m → zba (zbT H (P m s)).S m (wtV (H.S m) s) a = H.S a := fun a ha hne => by
  rw [zbh hne]
  exact zbQ fun hx => (h.pni hr a hx).2 ha
 unfold takeS takeL takeF
 by_cases hl : (wtV (H.S m) s).slots.length = 0
 ·rw [if_pos hl, if_pos hl, if_pos hl]
  have hno : ∀ s', ¬ zl2 R m s m s' := fun s' hrs => by
   obtain ⟨_, c, hc, _⟩ := hw.cell m s' hrs
   have hc2 : (zba (zbT H (P m s)).S m (wtV (H.S m) s) m).slots[s']? = some (some c) := hc
   rw [zaR, List.eq_nil_of_length_eq_zero hl] at hc2
   simp at hc2
  refine ⟨hw.unl hN (znN hm) hno, fun a ha => ?_⟩
  have ha2 := (ze4 h.rk.nd (znN hm)).1 ha
  have e : ((zd3 (znX ⟨(zbT H (P m s)).F, zba (zbT H (P m s)).S m (wtV (H.S m) s)⟩ rl (rl.idxOf m) m) m).S a).slots = (H.S a).slots := by
   show (zba _ m _ a).slots = _
   rw [zbh ha2.2]
   show (zdW _ rl _ m a).slots = _
   rw [(zgU ..).2]
   show (zba _ m _ a).slots = _
   rw [hS a ha2.1 ha2.2]
  rw [e]
  exact ⟨(hF a ha2.1).1, fun s' c' hs' => ⟨(hF a ha2.1).2 s' c' hs', fun e => ha2.2 e.1⟩⟩
 ·rw [if_neg hl, if_neg hl, if_neg hl]
  refine ⟨hw, fun a ha => ?_⟩
  show (zba (zbT H (P m s)).S m (wtV (H.S m) s) a).slots ≠ [] ∧ ∀ s' c', (zba (zbT H (P m s)).S m (wtV (H.S m) s) a).slots[s']? = some (some c') → _
  by_cases e : a = m
  ·rw [e, zaR]
   exact ⟨fun h => hl (by rw [h]; rfl), fun s' c' hs' => by
    have h2 := wtV_at.1 hs'
    exact ⟨(hF m hm).2 s' c' h2.2, fun e => h2.1 e.2⟩⟩
  ·rw [hS a ha e]
   exact ⟨(hF a ha).1, fun s' c' hs' => ⟨(hF a ha).2 s' c' hs', fun e2 => e e2.1⟩⟩
end HI
theorem getR_at {S : List (Option (List UInt8))} {i : Nat} {r : List UInt8} (h : S[i]? = some (some r)) : zhp S (i : Int) = r := by
 unfold zhp
 rw [zmK h, if_pos rfl, Int.toNat_natCast, List.getD_eq_getElem?_getD, h]; rfl
section
variable {Y : World → List Nat → Prop} [hYT : Thing Y] {q jb mw N lo : Nat} {L : List Nat} {G0 V : Nat → Pg} {k : Nat} {H : HS} {fl rl pd : List Nat} {R : Nat → Nat → Prop} {P : Nat → Nat → List Nat} {B : Nat → Nat → List UInt8} {m s : Nat} {w : World}
theorem findR (h : JH q jb mw N G0 V k H fl Y lo L w) (hI : HI N H fl rl R P B pd) (hr : R m s) {c : List UInt8} (hc : (H.S m).slots[s]? = some (some c)) (hc1 : 1 ≤ c.length) :
  Calls Tryz.prog 42 [.pointer (some ⟨jb, 0, none⟩), .agg #[.int .i64 (m : Int), .int .i64 (s : Int)]].toArray w (Ret fun v w' => ∃ qa cc, v = .slice qa c.length cc ∧ zaT w' qa c.length 1 (bv c) ∧ c.length ≤ cc ∧ JH q jb mw N G0 V k H fl Y lo (oB qa ++ L) w' ∧ LoL lo L w w') := by
 obtain ⟨hH, G, hG, hT⟩ := h
 have hma := hI.rk.at_ m (hI.cell m s hr).1
 have hg := getR_at hc
 have h2 := findC hT m (s : Int) hma.1 hma.2.1 hH.fN (hH.isV hG hma.1 hma.2.1) (zmK hc) hma.2.2 (by rw [hg]; omega)
 rw [hg] at h2
 exact h2.to fun v w' ⟨qa, cc, h3, h4, h5, h6, h7⟩ => ⟨qa, cc, h3, h4, h5, ⟨hH, G, hG, h6⟩, h7⟩
end
end Go.Proofs.YtdbogkndglbffaaGreat
namespace Coup
open Go Go.RowKit
section
variable {P : Program} {ρ : Env} {w : World} {d : Option Nat} {ty : TypeId} {pos : String} {af : Array Edge} {gd : Option (Nat × Bool)}
def zoT (P : Program) : List Field → Nat → Bool
 | [], _ => true
 | f :: fs, o => (f.name != "_") && Nat.beq f.offset o && intT P f.type .i64 && zoT P fs (o + 1)
theorem zfx (dd : Nat) (A B : List Int) (w : World) : ∀ (fs : List Field) (o : Nat), zoT P fs o = true → o + fs.length = A.length → A.length = B.length →
  (Op.eqFields (dd + 1) (iv A).toArray (iv B).toArray fs).run P w = .ok (decide (A.drop o = B.drop o)) w
 | [], o, _, h, hl => by
  rw [List.drop_eq_nil_of_le (by simp at h; omega), List.drop_eq_nil_of_le (by simp at h; omega)]
  simp [Op.eqFields]
 | f :: fs, o, hf, h, hl => by
  simp only [zoT, Bool.and_eq_true, bne_iff_ne, ne_eq] at hf
  obtain ⟨⟨⟨h1, h2⟩, h3⟩, h4⟩ := hf
  have e0 := Nat.eq_of_beq_eq_true h2
  have u0 := zfD h3
  have g0 : (isAgg f.type).run P w = .ok false w := by simp [isAgg, run_underlying u0]
  rw [List.length_cons] at h
  have p0 : ∀ (C : List Int) (hC : o < C.length), (part f.type (iv C).toArray f.offset).run P w = .ok (.int .i64 C[o]) w := fun C hC => by
   have e1 : (iv C).toArray[o]? = some (.int .i64 C[o]) := by simp [iv, hC]
   simp [part, g0, e0, Result.andThen, iv, hC]
  have s0 := run_equalIn_int w dd f.type .i64 .i64 (A[o]'(by omega)) (B[o]'(by omega)) u0
  have ih := zfx dd A B w fs (o + 1) h4 (by omega) hl
  simp only [Op.eqFields, h1, ne_eq, not_false_eq_true, if_true, Sem.run_bind, p0 A (by omega), p0 B (by omega), Result.andThen_ok, s0]
  have dA := List.drop_eq_getElem_cons (l := A) (i := o) (by omega)
  have dB := List.drop_eq_getElem_cons (l := B) (i := o) (by omega)
  rw [dA, dB]
  clear s0 p0 dA dB
  generalize A[o]'(by omega) = x
  generalize B[o]'(by omega) = y
  by_cases he : x = y
  ·subst he
   simp only [beq_self_eq_true, Bool.not_true, Bool.false_eq_true, if_false, ih, List.cons.injEq, true_and]
  ·have : (x == y) = false := by simpa using he
   simp [this, he]
def intsT (P : Program) (t n : Nat) : Bool := (match P.underlying t with | some (.struct fs) => zoT P fs.toList 0 && Nat.beq fs.toList.length n | _ => false) && !P.eqGuardType P.depth t && !P.stoodInHeld t
theorem rn_neqI {t t' n : Nat} {x y : Operand} {A B : List Int} (ht : intsT P t n = true) (hx : ev ρ x = .agg (iv A).toArray) (hy : ev ρ y = .agg (iv B).toArray) (hA : A.length = n) (hB : B.length = n) :
  (execOp (ev ρ) ⟨d, .binOp .neq t x y t', ty, pos, af, gd⟩).run P w = .ok (.value (.bool (!decide (A = B)))) w := by
 unfold intsT at ht
 simp only [Bool.and_eq_true, Bool.not_eq_true'] at ht
 obtain ⟨⟨h1, h2⟩, h3⟩ := ht
 split at h1
 ·rename_i fs hu
  rw [Bool.and_eq_true] at h1
  have hf : P.fieldsOf t = fs := by simp [Program.fieldsOf, hu]
  have g := run_eqGuard_agg (P := P) w .neq t x y (iv A).toArray (iv B).toArray h2
  have e := zfx 9998 A B w fs.toList 0 h1.1 (by have := Nat.eq_of_beq_eq_true h1.2; omega) (by omega)
  have s := run_equalIn_struct (P := P) (w := w) 9999 t (iv A).toArray (iv B).toArray (by rw [hf]; exact hu) h3
  rw [hf, show 9999 = 9998 + 1 from rfl, e] at s
  simp only [execOp, hx, hy, Sem.run_bind, g, Result.andThen_ok, run_neq_struct, show 10000 = 9998 + 1 + 1 from rfl, s]
  rfl
 ·cases h1
theorem zl4 {s t : Nat} {x : Operand} {v : Value} (ht : zes P t = true) (hx : ev ρ x = .iface t v) : (execOp (ev ρ) ⟨d, .typeAssert x s t true, ty, pos, af, gd⟩).run P w = .ok (.value (.tuple #[v, .bool true])) w := by
 unfold zes at ht
 cases hu : P.underlying t with
 | none => simp [hu] at ht
 | some dd =>
  rw [hu] at ht
  simp only [execOp, hx, Instr.typeAssert, Sem.run_bind, run_underlying hu, Result.andThen_ok]
  cases dd <;> first | (simp at ht; done) | (simp [Result.andThen]; done)
theorem zl5 {s t : Nat} {x : Operand} {z : Value} (ht : zes P t = true) (hx : ev ρ x = .nilIface) (hz : ∀ w, (zeroValue t).run P w = .ok z w) : (execOp (ev ρ) ⟨d, .typeAssert x s t true, ty, pos, af, gd⟩).run P w = .ok (.value (.tuple #[z, .bool false])) w := by
 unfold zes at ht
 cases hu : P.underlying t with
 | none => simp [hu] at ht
 | some dd =>
  rw [hu] at ht
  simp only [execOp, hx, Instr.typeAssert, Sem.run_bind, run_underlying hu, Result.andThen_ok]
  cases dd <;> first | (simp at ht; done) | (simp [Result.andThen, Sem.run_bind, hz]; done)
theorem zgK {t i0 i1 i2 : Nat} {x0 x1 x2 : Operand} (v0 v1 v2 : Value) (cs : List Value) (h0 : ev ρ x0 = v0) (h1 : ev ρ x1 = v1) (h2 : ev ρ x2 = v2)
  (hb : P.built t [(i0, v0), (i1, v1), (i2, v2)] = some cs.toArray) :
  (execOp (ev ρ) ⟨d, .build t #[(i0, x0), (i1, x1), (i2, x2)], ty, pos, af, gd⟩).run P w = .ok (.value (.agg cs.toArray)) w := by
 have := run_build (P := P) w t #[(i0, v0), (i1, v1), (i2, v2)] cs.toArray (by simpa using hb)
 simp only [execOp, List.map_toArray, List.map_cons, List.map_nil, h0, h1, h2, Sem.run_bind, this, Result.andThen_ok]
 rfl
theorem zjA {t i0 i1 i2 i3 i4 : Nat} {x0 x1 x2 x3 x4 : Operand} (v0 v1 v2 v3 v4 : Value) (cs : List Value) (h0 : ev ρ x0 = v0) (h1 : ev ρ x1 = v1) (h2 : ev ρ x2 = v2) (h3 : ev ρ x3 = v3) (h4 : ev ρ x4 = v4)
  (hb : P.built t [(i0, v0), (i1, v1), (i2, v2), (i3, v3), (i4, v4)] = some cs.toArray) :
  (execOp (ev ρ) ⟨d, .build t #[(i0, x0), (i1, x1), (i2, x2), (i3, x3), (i4, x4)], ty, pos, af, gd⟩).run P w = .ok (.value (.agg cs.toArray)) w := by
 have := run_build (P := P) w t #[(i0, v0), (i1, v1), (i2, v2), (i3, v3), (i4, v4)] cs.toArray (by simpa using hb)
 simp only [execOp, List.map_toArray, List.map_cons, List.map_nil, h0, h1, h2, h3, h4, Sem.run_bind, this, Result.andThen_ok]
 rfl
def arrT1 (P : Program) (t n e : Nat) : Bool := (match P.underlying t with | some (.array m e') => Nat.beq m n && Nat.beq e' e | _ => false) && (match P.underlying e with | some (.int _) => true | some (.pointer _) => true | _ => false) && (match P.info? e with | some i => Nat.beq i.size 1 | none => false)
theorem zgX {t n e : Nat} {x i : Operand} {cs : List Value} {k : IntKind} {a : Int} {v : Value} (ht : arrT1 P t n e = true) (hx : ev ρ x = .agg cs.toArray) (hi : ev ρ i = .int k a) (j : Nat) (hj : a = (j : Int)) (hn : j < n) (hv : cs[j]? = some v) :
  (execOp (ev ρ) ⟨d, .index t x i, ty, pos, af, gd⟩).run P w = .ok (.value v) w := by
 subst hj
 unfold arrT1 at ht
 simp only [Bool.and_eq_true] at ht
 obtain ⟨⟨h1, h2⟩, h3⟩ := ht
 split at h1
 ·rename_i m e' hu
  rw [Bool.and_eq_true] at h1
  obtain ⟨rfl, rfl⟩ : m = n ∧ e' = e := ⟨Nat.eq_of_beq_eq_true h1.1, Nat.eq_of_beq_eq_true h1.2⟩
  have hg : (isAgg e').run P w = .ok false w := by
   split at h2
   ·rename_i hq; simp [isAgg, run_underlying hq]
   ·rename_i hq; simp [isAgg, run_underlying hq]
   ·cases h2
  obtain ⟨inf, hinf, hsz⟩ : ∃ i, P.info? e' = some i ∧ i.size = 1 := by
   split at h3
   ·rename_i i hi; exact ⟨i, hi, Nat.eq_of_beq_eq_true h3⟩
   ·cases h3
  have hs : (Go.sizeOf e').run P w = .ok 1 w := by simp [Go.sizeOf, typeInfo, hinf, hsz]
  have hp : (part e' cs.toArray j).run P w = .ok v w := by
   simp [part, hg, Result.andThen, hv]
  have hr : (0 : Int) ≤ (j : Int) ∧ (j : Int) < (m : Int) := by omega
  simp only [execOp, hx, hi, Instr.index, asIntOf, Sem.run_bind, Sem.run_pure, run_underlying hu, Result.andThen_ok, hr, and_self, if_true, hs, Int.toNat_natCast, Nat.mul_one, hp]
 ·cases h1
theorem rn_max3 {x y z : Operand} {k : IntKind} {a b c : Int} {ats : Array Nat} (hx : ev ρ x = .int k a) (hy : ev ρ y = .int k b) (hz : ev ρ z = .int k c) :
  (execOp (ev ρ) ⟨d, .call ⟨.builtin .max, #[x, y, z], ats⟩, ty, pos, af, gd⟩).run P w = .ok (.value (.int k (max (max a b) c))) w := by
 have h1 : (if a < b then b else a) = max a b := by omega
 have h2 : (if max a b < c then c else max a b) = max (max a b) c := by omega
 simp [execOp, resolve, invoke, builtin, Builtin.max_, Builtin.max2, hx, hy, hz, h1, h2, Result.andThen]
def ifaceT (P : Program) (t : Nat) : Bool := match P.underlying t with | some (.interface _) => true | _ => false
theorem zoU {t t' : Nat} {x : Operand} (ht : ifaceT P t = true) (hx : ev ρ x = .nilIface) : (execOp (ev ρ) ⟨d, .binOp .neq t x (.const .nilIface) t', ty, pos, af, gd⟩).run P w = .ok (.value (.bool false)) w := by
 unfold ifaceT at ht
 split at ht
 ·rename_i ms hu
  have h1 : (eqGuard .neq t x (.const .nilIface) .nilIface .nilIface).run P w = .ok () w := by
   unfold eqGuard
   simp
  have h2 : ∀ n, (Op.equalIn (n + 1) t .nilIface .nilIface).run P w = .ok true w := fun n => by
   simp only [Op.equalIn, Sem.run_bind, run_underlying hu, Result.andThen_ok]
   rfl
  have h3 : (binOp .neq t .nilIface .nilIface).run P w = .ok (.bool false) w := by
   simp only [binOp]
   simp [Op.equal, Op.maxDepth, h2 9999]
  have h4 : ev ρ (.const .nilIface) = .nilIface := rfl
  simp only [execOp, hx, h4, Sem.run_bind, h1, h3, Result.andThen_ok]
  rfl
 ·cases ht
end
end Coup
namespace Go.Proofs.YtdbogkndglbffaaGreat
open Go Go.RowKit Coup
def hp : List UInt8 := [72, 69, 65, 80]
def nums (F : Fst) : List Nat := [F.fresh, F.free, F.many, F.records, F.root]
def zeF (l : List Nat) : List UInt8 := (l.map (beB 4)).flatten
def zeK (F : Fst) : List UInt8 := hp ++ zeF (nums F)
def zcB (F : Fst) : View := ⟨4, 0, [some (zeK F)]⟩
theorem znP (l : List Nat) : (zeF l).length = 4 * l.length := by
 induction l with
 | nil => rfl
 | cons a l ih => show (beB 4 a ++ zeF l).length = _; rw [List.length_append, zaQ, ih, List.length_cons]; omega
theorem zl6 (l : List Nat) (n : Nat) : zeF (l ++ [n]) = zeF l ++ beB 4 n := by unfold zeF; rw [List.map_append, List.flatten_append]; simp
theorem zfQ (F : Fst) : (zeK F).length = 24 := by unfold zeK; rw [List.length_append, znP]; rfl
theorem zdk (F : Fst) : Good (zcB F) := zc8 (by omega) (by omega) (by rw [zfQ]; omega)
set_option maxRecDepth 20000 in
theorem zlg (F : Fst) (w : World) : Calls Tryz.prog 68 [.agg (zfA F).toArray].toArray w (Ret fun v w' => v = .agg (bv (zaD (zcB F))).toArray ∧ Below w.heap.size w w') := by
 have hfl := zfQ F
 have hln := fun pr cr w' h => layNew 4 (by omega) pr cr (zeK F) w' h (by rw [hfl]; omega)
 have hnk := fun w' => newK 4 (by omega) w'
 rw [hfl] at hln
 have hQl := za3 (zdk F)
 have hQe : zaD ⟨4, 0, [some (zeK F)]⟩ = zaD (zcB F) := rfl
 have hNl := za3 (zbx (kind := 4) (by omega))
 rw [hQe] at hln
 obtain ⟨Q, hQ⟩ : ∃ Q, zaD (zcB F) = Q := ⟨_, rfl⟩
 obtain ⟨P4, hP4⟩ : ∃ P4, zaD (zdo 4) = P4 := ⟨_, rfl⟩
 simp only [hQ, hP4] at hln hnk hQl hNl ⊢
 have hfb : zeK F = hp ++ zeF (nums F) := rfl
 obtain ⟨fb, hfbe⟩ : ∃ fb, zeK F = fb := ⟨_, rfl⟩
 rw [hfbe] at hfb
 simp only [hfbe] at hln
 obtain ⟨nl, hnl⟩ : ∃ nl, nums F = nl := ⟨_, rfl⟩
 have hn5 : nl.length = 5 := by rw [← hnl]; rfl
 have hnv : nv nl = zfA F := by rw [← hnl]; rfl
 rw [hnl] at hfb
 have hB := Below.refl w.heap.size w
 have hml : maxLen = 9223372036854775807 := by decide
 obtain ⟨z2, hz2, hzl⟩ : ∃ z2, List.replicate 512 (Value.int .u8 0) = z2 ∧ z2.length = 512 := ⟨_, rfl, List.length_replicate⟩
 refine zas (fn := Tryz.f68) (rs := [.cell 2 62]) (n := 41) Tryz.func68 rfl rfl Tryz.ntmps68 (by kernel_rfl) rfl ?_
 refine zaf (zaa ?_)
 refine zay rfl (zaU (zfA F) rfl (fun g1 w1 hg1 hr1 hb1 => ?_))
 have ge_hB_g1 := Nat.le_trans hB.size hg1
 replace hB := hB.acc hb1
 replace hr1 : row w1 g1 [.int .i64 (F.fresh : Int), .int .i64 (F.free : Int), .int .i64 (F.many : Int), .int .i64 (F.records : Int), .int .i64 (F.root : Int)] 83 := hr1
 refine zay rfl (zar (List.replicate 512 (Value.int .u8 0)) (by kernel_rfl) (fun g2 w2 hg2 hr2 hb2 => ?_))
 have ge_hB_g2 := Nat.le_trans hB.size hg2
 have lt_g1_g2 : g1 < g2 := Nat.lt_of_lt_of_le hr1.lt hg2
 replace hr1 := hr1.new hb2
 replace hB := hB.acc hb2
 rw [hz2] at hr2
 refine zae (zah (zaf (zaa ?_)))
 refine zay rfl (zc6 (e := 5) [(0, .int .u8 72), (1, .int .u8 69), (2, .int .u8 65), (3, .int .u8 80)] [.int .u8 0] 1 (by kernel_rfl) (by kernel_rfl) rfl (by omega) (by omega) (by intro i hi; rcases i with _ | _ | _ | _ | i <;> first | (simp [Value.cells]; done) | (exfalso; simp only [List.length_cons, List.length_nil] at hi; omega)) (by simp [Value.cells]) (fun g8 w8 hg8 hr8 hb8 => ?_))
 have ge_hB_g8 := Nat.le_trans hB.size hg8
 have lt_g1_g8 : g1 < g8 := Nat.lt_of_lt_of_le hr1.lt hg8
 have lt_g2_g8 : g2 < g8 := Nat.lt_of_lt_of_le hr2.lt hg8
 replace hr1 := hr1.new hb8
 replace hr2 := hr2.new hb8
 replace hB := hB.acc hb8
 replace hr8 : row w8 g8 (bv hp) 5 := hr8
 have hr8k := hr8
 have l1 := hr1.lt
 have l2 := hr2.lt
 refine zay rfl (mk_mark (e := 5) (by kernel_rfl) (by kernel_rfl) rfl hr8k rfl (by omega) (fun w9 hs8 ho8 => ?_))
 replace hr1 := hr1.only ho8 (Nat.ne_of_lt lt_g1_g8)
 replace hr2 := hr2.only ho8 (Nat.ne_of_lt lt_g2_g8)
 replace hB := ho8.below hB ge_hB_g8
 refine zad (zac) (zae (zah (zaf (zaf (zaa (zad (zav 0) ?_))))))
 refine zad (zax hr1) ?_
 refine zad (zav 1) ?_
 refine zad (zax hr1) ?_
 refine zad (zav 2) ?_
 refine zad (zax hr1) ?_
 refine zad (zav 3) ?_
 refine zad (zax hr1) ?_
 refine zad (zav 4) ?_
 refine zad (zax hr1) ?_
 refine zad (zjA (.int .i64 (F.fresh : Int)) (.int .i64 (F.free : Int)) (.int .i64 (F.many : Int)) (.int .i64 (F.records : Int)) (.int .i64 (F.root : Int)) (zfA F) rfl rfl rfl rfl rfl (by kernel_rfl)) ?_
 refine zad (zab) (zae (zah (zaE ?_)))
 refine zbB (α := Nat × Value) (0, .slice (some ⟨g8, 0, none⟩) 4 4) (fun k => [(2, .pointer (some ⟨g2, 0, none⟩)), (3, k.2), (20, .agg (zfA F).toArray), (21, .int .i64 (k.1 : Int))])
  (fun k w' => k.1 ≤ 5 ∧ ((k.1 = 0 ∧ k.2 = .slice (some ⟨g8, 0, none⟩) 4 4 ∧ zaT w' (some ⟨g8, 0, none⟩) 4 1 (bv hp)) ∨ (0 < k.1 ∧ zaB w' g8 5 1 k.2 (4 + 4 * k.1) (bv (hp ++ zeF (nl.take k.1))))) ∧ row w' g2 z2 62 ∧ Below w.heap.size w w') (fun k => 5 - k.1) ⟨rfl, rfl, rfl, rfl, rfl⟩ ⟨Nat.zero_le _, .inl ⟨rfl, rfl, hs8⟩, hr2, hB⟩ ?_
 rintro ⟨i, v⟩ f wr ⟨hi, hv, hr2, hB⟩
 dsimp only at *
 by_cases hi5 : i < 5
 ·obtain ⟨n, hn⟩ : ∃ n, nl[i]? = some n := ⟨_, List.getElem?_eq_getElem (by omega)⟩
  have hix : (zfA F)[i]? = some (.int .i64 (n : Int)) := by rw [← hnv]; unfold nv; rw [List.getElem?_map, hn]; rfl
  have htk : nl.take (i + 1) = nl.take i ++ [n] := by rw [List.take_add_one, hn]; rfl
  have happ : bv (hp ++ zeF (nl.take (i + 1))) = bv (hp ++ zeF (nl.take i)) ++ bv (beB 4 n) := by rw [htk, zl6, ← List.append_assoc, zcD]
  rcases hv with ⟨rfl, rfl, hs8⟩ | ⟨hi0, hv⟩
  ·have happ2 : bv (hp ++ zeF (nl.take (0 + 1))) = bv hp ++ bv (beB 4 n) := by rw [happ]; simp [zeF]
   refine zaf (zaa ?_)
   refine zad (za2 rfl rfl) ?_
   refine zae (zah (zaf ?_))
   refine ze6 rfl ((by omega)) ?_
   refine zau (zah (zaf (zaE (zaf (zaa ?_)))))
   refine zad (zgX (k := .i64) (n := 5) (e := 3) (by kernel_rfl) rfl rfl 0 rfl (by omega) hix) ?_
   refine zad (zac) (zae (zah (zaa (zad (zab) (zad (zab) ?_)))))
   refine zao rfl (zaj (by kernel_rfl) rfl) (zlb n wr) ?_
   rintro _ w26 ⟨g26, rfl, hr26, hg26, hb26⟩
   have ge_hB_g26 := Nat.le_trans hB.size hg26
   have lt_g2_g26 : g2 < g26 := Nat.lt_of_lt_of_le hr2.lt hg26
   replace hr2 := hr2.new hb26
   replace hs8 := hs8.new hb26
   replace hB := hB.acc hb26
   have hs26 := hr26.slA (m := 4) (sz := 1) (by rw [zal, zaQ]) (by omega)
   have hs8k := hs8
   have hobt := hs8.some (by omega)
   obtain ⟨g9, o9, e9, hl9⟩ := hobt
   have hszB : g8 ≤ w26.heap.size := by cases e9; omega
   refine zay rfl (zlW (e := 5) (sz := 1) (bytes := 1) (z := .int .u8 0) (by kernel_rfl) rfl (by kernel_rfl) rfl (by decide) rfl hs8k rfl hs26 (by omega) (by omega) (by omega) (by omega) (fun v27 w27 hv27 hb27 => ?_))
   replace hr2 := hr2.new hb27
   replace hB := hB.acc hb27
   refine zad (zac) (zae (za6 (zah (zaa ?_))))
   refine zad (zaN rfl rfl (show IntKind.i64.wrap (((0 : Nat) : Int) + 1) = ((0 + 1 : Nat) : Int) by rw [w64 (by omega)]; omega)) ?_
   refine zad (zab) (zae ?_)
   refine zbw ⟨(0 + 1, v27), by show 5 - (0 + 1) < 5 - 0; omega, ⟨rfl, rfl, rfl, rfl, rfl⟩, by show 0 + 1 ≤ 5; omega, .inr ⟨by show 0 < 0 + 1; omega, ?_⟩, hr2, hB⟩
   show zaB _ _ _ _ v27 (4 + 4 * (0 + 1)) _
   rw [happ2]
   exact zaB.mono hv27 hszB
  ·have hi1 := hi0
   refine zaf (zaa ?_)
   refine zad (za2 rfl rfl) ?_
   refine zae (zah (zaf ?_))
   refine ze6 rfl ((by omega)) ?_
   refine zau (zah (zaf (zaE (zaf (zaa ?_)))))
   refine zad (zgX (k := .i64) (n := 5) (e := 3) (by kernel_rfl) rfl rfl i rfl (by omega) hix) ?_
   refine zad (zac) (zae (zah (zaa (zad (zab) (zad (zab) ?_)))))
   refine zao rfl (zaj (by kernel_rfl) rfl) (zlb n wr) ?_
   rintro _ w26 ⟨g26, rfl, hr26, hg26, hb26⟩
   have ge_hB_g26 := Nat.le_trans hB.size hg26
   have lt_g2_g26 : g2 < g26 := Nat.lt_of_lt_of_le hr2.lt hg26
   replace hr2 := hr2.new hb26
   replace hv := hv.new hb26
   replace hB := hB.acc hb26
   have hs26 := hr26.slA (m := 4) (sz := 1) (by rw [zal, zaQ]) (by omega)
   have hsz := hB.size
   have sz_hB_27 := hB.size
   refine zay rfl (zbq (e := 5) (sz := 1) (bytes := 1) (z := Value.int .u8 0) (by kernel_rfl) rfl (by kernel_rfl) rfl (by decide) rfl hv rfl hs26 (zb5 _) (by unfold maxLen; omega) (by omega) (fun hm0 => by omega) (fun v27 w27 hv27 hgr27 hfr27 => ?_))
   replace hr2 := hr2.own hv hgr27 (by omega)
   replace hB := hB.own hv hgr27 (by omega)
   refine zad (zac) (zae (za6 (zah (zaa ?_))))
   refine zad (zaN rfl rfl (show IntKind.i64.wrap ((i : Int) + 1) = ((i + 1 : Nat) : Int) by rw [w64 (by omega)]; omega)) ?_
   refine zad (zab) (zae ?_)
   refine zbw ⟨(i + 1, v27), by show 5 - (i + 1) < 5 - i; omega, ⟨rfl, rfl, rfl, rfl, rfl⟩, by show i + 1 ≤ 5; omega, .inr ⟨by show 0 < i + 1; omega, ?_⟩, hr2, hB⟩
   show zaB _ _ _ _ v27 (4 + 4 * (i + 1)) _
   rw [happ]
   exact hv27
 ·have hie : i = 5 := by omega
  subst hie
  have hv2 : zaB wr g8 5 1 v 24 (bv fb) := by
   rcases hv with ⟨h, _⟩ | ⟨_, h⟩
   ·omega
   ·rw [hfb, ← List.take_of_length_le (l := nl) (i := 5) (by omega)]; exact h
  have hobt := hv2.form' (by omega)
  obtain ⟨gh, oh, ch, rfl, hgh1, hgh2, hch⟩ := hobt
  have hs2 := hv2.sl
  have hBr := Below.refl wr.heap.size wr
  have hltg := hr2.lt
  refine zaf (zaa ?_)
  refine zad (za2 rfl rfl) ?_
  refine zae (zah (zaf ?_))
  refine zcL rfl ((by omega)) ?_
  refine zbm (zbW (zcr (zbt (zah (zaf (zaa ?_))))))
  refine zao rfl (zaj (by kernel_rfl) rfl) (hnk wr) ?_
  rintro _ w30 ⟨rfl, hb30⟩
  replace hr2 := hr2.new hb30
  replace hs2 := hs2.new hb30
  replace hB := hB.acc hb30
  replace hBr := hBr.acc hb30
  refine zad (zab) (zad (zai rfl rfl) (zad (zai rfl rfl) ?_))
  refine zay rfl (zar (List.replicate 512 (Value.int .u8 0)) (by kernel_rfl) (fun g6 w6 hg6 hr6 hb6 => ?_))
  have ge_hB_g6 := Nat.le_trans hB.size hg6
  have ge_hBr_g6 := Nat.le_trans hBr.size hg6
  have lt_g2_g6 : g2 < g6 := Nat.lt_of_lt_of_le hr2.lt hg6
  replace hr2 := hr2.new hb6
  replace hs2 := hs2.new hb6
  replace hB := hB.acc hb6
  refine zaG rfl (zaO 512 (bv P4) hr6 (fun w901 hr6 ho901 => ?_))
  replace hr2 := hr2.only ho901 (Nat.ne_of_lt lt_g2_g6)
  replace hs2 := hs2.only ho901 (by omega)
  replace hB := ho901.below hB ge_hB_g6
  refine zad (zac) (zae (zah (zaf (zaa ?_))))
  refine zad (zbc 512 hr6) ?_
  refine zad (zab) ?_
  refine zao rfl (zaj (by kernel_rfl) rfl) (hln _ _ w901 hs2) ?_
  rintro _ w36 ⟨rfl, hb36⟩
  replace hr2 := hr2.new hb36
  replace hr6 := hr6.new hb36
  replace hB := hB.acc hb36
  refine zad (zab) (zad (zai rfl rfl) (zad (zai rfl rfl) (zad (zai rfl rfl) ?_)))
  refine zaG rfl (zaO 512 (bv Q) hr6 (fun w902 hr6 ho902 => ?_))
  replace hr2 := hr2.only ho902 (Nat.ne_of_lt lt_g2_g6)
  replace hB := ho902.below hB ge_hB_g6
  refine zae (zah (zaf (zaa ?_)))
  refine zad (zbc 512 hr6) ?_
  refine zaG rfl (zaO 512 (bv Q) hr2 (fun w903 hr2 ho903 => ?_))
  replace hB := ho903.below hB ge_hB_g2
  refine zae (zah (zaz ?_))
  refine zam [_] ⟨⟨_, rfl, Ld.zbX (k := 512) hr2 (by kernel_rfl) (by kernel_rfl) (by first | (simp; done) | (simp [zal, *]; done) | assumption)⟩, trivial⟩ ?_
  exact ⟨rfl, hB⟩
theorem numB4 {n : Nat} (h : n < 4294967296) : zc4 (beB 4 n) = n := by rw [zgb, Nat.mod_eq_of_lt (by omega)]
theorem zlh : ∀ {l : List Nat} {i n : Nat}, l[i]? = some n → ((zeF l).drop (4 * i)).take 4 = beB 4 n
 | a :: l, 0, n, h => by
  have e : a = n := by simpa using h
  subst e
  show (beB 4 a ++ zeF l).take 4 = _
  exact List.take_left' (zaQ _ _)
 | a :: l, i + 1, n, h => by
  have ih := zlh (l := l) (i := i) (n := n) (by simpa using h)
  show ((beB 4 a ++ zeF l).drop (4 * (i + 1))).take 4 = _
  rw [show 4 * (i + 1) = (beB 4 a).length + 4 * i by rw [zaQ]; omega, List.drop_append, List.drop_eq_nil_of_le (by omega), List.nil_append, show (beB 4 a).length + 4 * i - (beB 4 a).length = 4 * i by omega]
  exact ih
structure FstOk (N : Nat) (F : Fst) : Prop where
 f1 : 1 ≤ F.fresh
 fN : F.fresh ≤ N
 fe : F.free < F.fresh
 ma : F.many < F.fresh
 rc : F.records < F.fresh
 rt : F.root < N
 n48 : N ≤ 2048
theorem HOk.fst {N : Nat} {H : HS} {fl : List Nat} (h : HOk N H fl) (hN : N ≤ 2048) : FstOk N H.F := ⟨h.f1, h.fN, h.freeN, h.many, h.rc, h.rt, hN⟩
def zim (l : List Nat) (k : Nat) : List Value := nv (l.take k) ++ List.replicate (5 - k) (.int .i64 0)
theorem zoV {l : List Nat} {k n : Nat} (hl : l.length = 5) (h : l[k]? = some n) : (zim l k).set k (.int .i64 (n : Int)) = zim l (k + 1) := by
 have hk : k < 5 := by have := (List.getElem?_eq_some_iff.1 h).1; omega
 unfold zim
 have e : (nv (l.take k)).length = k := by rw [nv_len, List.length_take]; omega
 rw [List.set_append, e, if_neg (by omega), Nat.sub_self, show 5 - k = (5 - (k + 1)) + 1 by omega, List.replicate_succ, List.set_cons_zero, List.take_add_one, h]
 unfold nv
 simp
set_option maxRecDepth 20000 in
set_option maxHeartbeats 1000000 in
theorem zl7 (F : Fst) (N : Nat) (hF : FstOk N F) (w : World) : Calls Tryz.prog 110 [.agg (bv (zaD (zcB F))).toArray, .int .i64 (N : Int)].toArray w (Ret fun v w' => v = .tuple #[.agg (zfA F).toArray, .bool true] ∧ Below w.heap.size w w') := by
 have hgd := zdk F
 have hfl := zfQ F
 have hge := fun w' => get17 (zcB F) 0 w' hgd
 have hgr : zhp (zcB F).slots 0 = zeK F := rfl
 have hhv : zjD (zcB F).slots 0 = true := rfl
 simp only [hgr, hhv, if_true, hfl] at hge
 have hpg := fun w' => zlg F w'
 have hnum : ∀ (m : Nat) (hm : m < 4294967296) p c w', zaT w' p 4 1 (bv (beB 4 m)) → Calls Tryz.prog 107 [.slice p 4 c].toArray w' (Ret fun v w2 => v = .int .i64 (m : Int) ∧ w' = w2) := fun m hm p c w' h' =>
  (num15 p 4 c _ w' h' (by omega)).to fun v w2 ⟨e, h2⟩ => ⟨by rw [e, numB4 hm], h2⟩
 have hQl := za3 hgd
 have hQl2 := zbv (zcB F) hgd.size
 obtain ⟨Q, hQ⟩ : ∃ Q, zaD (zcB F) = Q := ⟨_, rfl⟩
 simp only [hQ] at hge hpg hQl hQl2 ⊢
 have hfb : zeK F = hp ++ zeF (nums F) := rfl
 obtain ⟨fb, hfbe⟩ : ∃ fb, zeK F = fb := ⟨_, rfl⟩
 rw [hfbe] at hfb hfl
 simp only [hfbe] at hge
 obtain ⟨nl, hnl⟩ : ∃ nl, nums F = nl := ⟨_, rfl⟩
 have hn5 : nl.length = 5 := by rw [← hnl]; rfl
 have hnv : nv nl = zfA F := by rw [← hnl]; rfl
 have hlt : ∀ n ∈ nl, n < 4294967296 := fun n hn => by
  rw [← hnl] at hn
  have := hF.fe
  have := hF.ma
  have := hF.rc
  have := hF.rt
  have := hF.fN
  have := hF.n48
  simp only [nums, List.mem_cons, List.not_mem_nil, or_false] at hn
  omega
 rw [hnl] at hfb
 have hB := Below.refl w.heap.size w
 have hml : maxLen = 9223372036854775807 := by decide
 refine zas (fn := Tryz.f110) (rs := [.cell 4 83, .tmp 5]) (n := 81) Tryz.func110 rfl rfl Tryz.ntmps110 (by kernel_rfl) rfl ?_
 refine zaf (zaa ?_)
 refine zay rfl (zaU (bv Q) rfl (fun g2 w2 hg2 hr2 hb2 => ?_))
 replace hB := hB.acc hb2
 refine zay rfl (zar ([Value.int .i64 0, Value.int .i64 0, Value.int .i64 0, Value.int .i64 0, Value.int .i64 0]) (by kernel_rfl) (fun g4 w4 hg4 hr4 hb4 => ?_))
 have ge_hB_g4 := Nat.le_trans hB.size hg4
 have lt_g2_g4 : g2 < g4 := Nat.lt_of_lt_of_le hr2.lt hg4
 replace hr2 := hr2.new hb4
 replace hB := hB.acc hb4
 refine zad (zac) (zae (zah (zaf (zaa ?_))))
 refine zad (zaI rfl (Ld.zbX (k := 512) hr2 (by kernel_rfl) (by kernel_rfl) hQl)) ?_
 have hl2 := hr2.lt
 have hl4 := hr4.lt
 refine zao rfl (zaj (by kernel_rfl) rfl) (hge w4) ?_
 rintro _ w13 ⟨⟨q9, c9, rfl, hs9, hc9, hb9⟩, hb13⟩
 replace hr2 := hr2.new hb13
 replace hr4 := hr4.new hb13
 replace hB := hB.acc hb13
 refine zad (zab) (zad (zai rfl rfl) (zad (zai rfl rfl) (zad (zac) (zad (zac) (zae (zah (zaf (zaf (zaa (zad (zab) ?_))))))))))
 refine zad (zaM rfl rfl) ?_
 refine zad (zab) ?_
 refine zdc 18 rfl ((by decide)) ?_
 refine zan rfl (zad (zab) (zan rfl ?_))
 refine zad (zaJ (e := 5) (sz := 1) (by kernel_rfl) rfl rfl) ?_
 refine zan rfl ?_
 refine zad (zaM rfl rfl) ?_
 refine zad (zaw rfl) (zae (zah ?_))
 refine zcL rfl ((by decide)) ?_
 refine zau (zah (zaf (zaa (zad (zac) (zae (zah (zaf (zaf (zaa (zad (zav 0) (zad (zav 1) ?_)))))))))))
 refine zad (zav 2) (zad (zav 3) (zad (zav 4) ?_))
 refine zad (zjA (.pointer (some ⟨g4, 0, none⟩)) (.pointer (some ⟨g4, 1, none⟩)) (.pointer (some ⟨g4, 2, none⟩)) (.pointer (some ⟨g4, 3, none⟩)) (.pointer (some ⟨g4, 4, none⟩)) [.pointer (some ⟨g4, 0, none⟩), .pointer (some ⟨g4, 1, none⟩), .pointer (some ⟨g4, 2, none⟩), .pointer (some ⟨g4, 3, none⟩), .pointer (some ⟨g4, 4, none⟩)] rfl rfl rfl rfl rfl (by kernel_rfl)) ?_
 refine zad (zab) (zae (zah (zaE ?_)))
 refine zbB (α := Nat) 0 (fun k => [(1, .int .i64 (N : Int)), (2, .pointer (some ⟨g2, 0, none⟩)), (4, .pointer (some ⟨g4, 0, none⟩)), (5, .bool false), (6, .slice q9 24 c9), (8, .int .i64 ((4 + 4 * k : Nat) : Int)), (29, .agg #[.pointer (some ⟨g4, 0, none⟩), .pointer (some ⟨g4, 1, none⟩), .pointer (some ⟨g4, 2, none⟩), .pointer (some ⟨g4, 3, none⟩), .pointer (some ⟨g4, 4, none⟩)]), (30, .int .i64 (k : Int))])
  (fun k w' => k ≤ 5 ∧ row w' g4 (zim nl k) 83 ∧ row w' g2 (bv Q) 62 ∧ zaT w' q9 24 1 (bv fb) ∧ Below w.heap.size w w') (fun k => 5 - k) ⟨rfl, rfl, rfl, rfl, rfl, rfl, rfl, rfl, rfl⟩ ⟨Nat.zero_le _, hr4, hr2, hs9, hB⟩ ?_
 have hobt := hs9.some (by omega)
 obtain ⟨gq, oq, rfl, _⟩ := hobt
 have hgq := hb9 _ _ rfl
 clear hr4 hr2 hs9 hB
 rintro i f wr ⟨hi, hr4, hr2, hs9, hB⟩
 by_cases hi5 : i < 5
 ·obtain ⟨n, hn⟩ : ∃ n, nl[i]? = some n := ⟨_, List.getElem?_eq_getElem (by omega)⟩
  have hn4 := hlt n (List.mem_of_getElem? hn)
  have hsub : ∀ w', zaT w' (some ⟨gq, oq, none⟩) 24 1 (bv fb) → zaT w' (some ⟨gq, oq + (4 + 4 * i), none⟩) 4 1 (bv (beB 4 n)) := fun w' h' => by
   have h9 := h'.subB (4 + 4 * i) 4 (by omega)
   rwa [hfb, show 4 + 4 * i = hp.length + 4 * i from rfl, List.drop_append, List.drop_eq_nil_of_le (by omega), List.nil_append, show hp.length + 4 * i - hp.length = 4 * i by omega, zlh hn] at h9
  have hfs := zoV hn5 hn
  have hfl5 : (zim nl i).length = 5 := by unfold zim; rw [List.length_append, nv_len, List.length_take, List.length_replicate]; omega
  refine zaf (zaa ?_)
  refine zad (za2 rfl rfl) ?_
  refine zae (zah (zaf ?_))
  refine ze6 rfl ((by omega)) ?_
  refine zau (zah (zaf (zaE (zaf (zaa ?_)))))
  refine zad (zgX (k := .i64) (n := 5) (e := 203) (v := .pointer (some ⟨g4, i, none⟩)) (by kernel_rfl) rfl rfl i rfl (by omega) (by rcases i with _ | _ | _ | _ | _ | i <;> first | rfl | omega)) ?_
  refine zad (zac) (zae (zah (zaf (zaa (zad (zab) (zad (zab) (zad (zab) (zad (zab) ?_))))))))
  refine zad (zaN rfl rfl (show IntKind.i64.wrap (((4 + 4 * i : Nat) : Int) + 4) = ((4 + 4 * i + 4 : Nat) : Int) by rw [w64 (by omega)]; omega)) ?_
  refine zad (zab) ?_
  refine zad (zaN rfl rfl (show IntKind.i64.wrap (((4 + 4 * i : Nat) : Int) + 4) = ((4 + 4 * i + 4 : Nat) : Int) by rw [w64 (by omega)]; omega)) ?_
  refine zad (zcb (e := 5) (4 + 4 * i) (4 + 4 * i + 4) (4 + 4 * i + 4) (4) (by kernel_rfl) rfl ⟨_, _, rfl, by omega⟩ ⟨_, _, rfl, by omega⟩ ⟨_, _, rfl, by omega⟩ (by simp) (by omega) (by omega) (by omega) (by omega) (by omega)) ?_
  refine zao rfl (zaj (by kernel_rfl) rfl) (hnum n hn4 _ _ wr (hsub _ hs9)) ?_
  rintro _ _ ⟨rfl, rfl⟩
  refine zad (zak rfl) ?_
  refine zaG rfl (zbg hr4 (fun w901 hr4 ho901 => ?_))
  replace hr2 := hr2.only ho901 (Nat.ne_of_lt lt_g2_g4)
  replace hs9 := hs9.only ho901 (by omega)
  replace hB := ho901.below hB ge_hB_g4
  replace hr4 : row w901 g4 ((zim nl i).set i (.int .i64 (n : Int))) 83 := hr4
  rw [hfs] at hr4
  refine zae (zah (zaa (zad (zab) ?_)))
  refine zad (zaN rfl rfl (show IntKind.i64.wrap (((4 + 4 * i : Nat) : Int) + 4) = ((4 + 4 * (i + 1) : Nat) : Int) by rw [w64 (by omega)]; omega)) ?_
  refine zad (zac) (zae (za6 (zah (zaa ?_))))
  refine zad (zaN rfl rfl (show IntKind.i64.wrap ((i : Int) + 1) = ((i + 1 : Nat) : Int) by rw [w64 (by omega)]; omega)) ?_
  refine zad (zab) (zae ?_)
  refine zbw ⟨i + 1, by omega, ⟨rfl, rfl, rfl, rfl, rfl, rfl, rfl, rfl, rfl⟩, by omega, hr4, hr2, hs9, hB⟩
 ·have hie : i = 5 := by omega
  subst hie
  have hff : zim nl 5 = zfA F := by unfold zim; rw [List.take_of_length_le (by omega), hnv]; simp
  rw [hff] at hr4
  obtain ⟨h1, h2, h3, h4, h5, h6, h7⟩ := hF
  obtain ⟨fr, fe, ma, re, ro⟩ := F
  dsimp only [zfA] at *
  have hl2 := hr2.lt
  have hl4 := hr4.lt
  refine zaf (zaa ?_)
  refine zad (za2 rfl rfl) ?_
  refine zae (zah (zaf ?_))
  refine zcL rfl ((by omega)) ?_
  refine zbm (zbW (zcr (zbt (zah (zaf ?_)))))
  refine za5 [] (by kernel_rfl) ?_
  intro w902 hb902 hS902
  replace hr4 := hr4.new hb902
  replace hr2 := hr2.new hb902
  replace hB := hB.acc hb902
  have hr4_d902 := hr4
  have hr2_d902 := hr2
  refine zbp 0 (fun w' hS' => zaI rfl (Ld.zbX (k := 5) (hr4_d902.kq hS') (by kernel_rfl) (by kernel_rfl) rfl)) ?_
  refine zbp 2 (fun w' hS' => zbc 512 (hr2_d902.kq hS')) ?_
  refine zaH 1 (by kernel_rfl) ?_
  refine zbb rfl rfl (zaj (by kernel_rfl) rfl) (hpg w902) ?_
  rintro _ w47 ⟨rfl, hb47⟩
  have hS903 := hS902.add0 hb47
  refine ⟨hS903, ?_⟩
  replace hr4 := hr4.new hb47
  replace hB := hB.acc hb47
  refine zat 3 (zms (n := 512) (by kernel_rfl) rfl rfl (by simp [*]) (by simp [*])) ?_
  refine zat 4 (zab) ?_
  refine zlp 50 rfl (rfl) ?_
  refine zat 5 (zav 0) ?_
  refine zbp 6 (fun w' hS' => zax (hr4_d902.kq hS')) ?_
  refine zat 7 (zc2 rfl rfl) ?_
  refine zat 8 (zaA rfl) ?_
  refine zat 9 (zab) ?_
  refine zlp 55 rfl ((by omega)) ?_
  refine zat 10 (zav 0) ?_
  refine zbp 11 (fun w' hS' => zax (hr4_d902.kq hS')) ?_
  refine zat 12 (zab) ?_
  refine zat 13 (zmm rfl rfl) ?_
  refine zat 14 (zaA rfl) ?_
  refine zat 15 (zab) ?_
  refine zlp 61 rfl ((by omega)) ?_
  refine zat 16 (zav 1) ?_
  refine zbp 17 (fun w' hS' => zax (hr4_d902.kq hS')) ?_
  refine zat 18 (zav 2) ?_
  refine zbp 19 (fun w' hS' => zax (hr4_d902.kq hS')) ?_
  refine zat 20 (zav 3) ?_
  refine zbp 21 (fun w' hS' => zax (hr4_d902.kq hS')) ?_
  refine zat 22 (rn_max3 rfl rfl rfl) ?_
  refine zat 23 (zav 0) ?_
  refine zbp 24 (fun w' hS' => zax (hr4_d902.kq hS')) ?_
  refine zat 25 (za2 rfl rfl) ?_
  refine zat 26 (zaA rfl) ?_
  refine zat 27 (zab) ?_
  refine zlp 73 rfl ((by omega)) ?_
  refine zat 28 (zav 4) ?_
  refine zbp 29 (fun w' hS' => zax (hr4_d902.kq hS')) ?_
  refine zat 30 (zab) ?_
  refine zat 31 (za2 rfl rfl) ?_
  refine zat 32 (zaA rfl) ?_
  refine zat 33 (zac) ?_
  refine zaL (by kernel_rfl) ?_
  refine zah (zaf (zaa ?_))
  refine zad (zbc 5 hr4) ?_
  refine zad (zab) ?_
  refine zaG rfl (zaO 5 (_) hr4 (fun w904 hr4 ho904 => ?_))
  replace hB := ho904.below hB ge_hB_g4
  refine zad (zac) (zae (zah (zaz ?_)))
  refine zam [_, _] ⟨⟨_, rfl, Ld.zbX (k := 5) hr4 (by kernel_rfl) (by kernel_rfl) (by first | (simp; done) | (simp [zal, *]; done) | assumption)⟩, rfl, trivial⟩ ?_
  have hz : decide ((ro : Int) < (N : Int)) = true := decide_eq_true (by omega)
  have hf : ∀ b : Bool, b = true → Value.tuple #[Value.agg (zfA ⟨fr, fe, ma, re, ro⟩).toArray, .bool b] = .tuple #[.agg (zfA ⟨fr, fe, ma, re, ro⟩).toArray, .bool true] := fun b hb => by rw [hb]
  exact ⟨hf _ hz, hB⟩
end Go.Proofs.YtdbogkndglbffaaGreat
namespace Coup
open Go Go.RowKit Go.Maps Go.ChangeMaps Go.MapKept Go.WideElems
section
variable {H : Type} {P : Program} {k : TypeId} {R : Value → Option (DataW H × List MemPlace)} {w : World} {b r n : Nat} {D : DataW H} {left : Lit → Bool} {cnt : Nat}
theorem zl8 (h : w.ranges P k R b r n D left cnt) {kl : Lit} (hl : left kl = true) {l : List (Lit × DataW H)} (hD : D = .map l) : ∃ z, (kl, z) ∈ l := by
 obtain ⟨es, clock, since, seen, c0, hb, F, hs, rfl, hr, hold, rfl, hl1, hl2, hsc, hsk⟩ := h
 obtain ⟨x, hx, rfl⟩ := hl2 kl hl
 injection hD with hD
 exact ⟨(rg P k R x).2, by rw [← hD]; exact mem_sorted.2 (List.mem_map.2 ⟨x, hx, rfl⟩)⟩
theorem zks {w' : World} (h : w.ranges P k R b r n D left cnt) (h1 : w'.heap[b]? = w.heap[b]?) (h2 : w'.heap[r]? = w.heap[r]?) : w'.ranges P k R b r n D left cnt := by
 obtain ⟨es, clock, since, seen, c0, hb, F, hs, hD, hr, rest⟩ := h
 exact ⟨es, clock, since, seen, c0, h1.trans hb, F, hs, hD, h2.trans hr, rest⟩
end
theorem zgd {f : Nat → Option Value} : ∀ {m a : Nat} {x : Lit × DataW Value}, x ∈ kvL f a m → ∃ i v, a ≤ i ∧ i < a + m ∧ f i = some v ∧ x = (.int .i64 (i : Int), .held v)
 | 0, a, x, h => by simp [kvL] at h
 | m + 1, a, x, h => by
  rw [kvL] at h
  split at h
  ·rename_i v hv
   rcases List.mem_cons.1 h with rfl | h
   ·exact ⟨a, v, Nat.le_refl _, by omega, hv, rfl⟩
   ·obtain ⟨i, v, h1, h2, h3, h4⟩ := zgd h; exact ⟨i, v, by omega, by omega, h3, h4⟩
  ·obtain ⟨i, v, h1, h2, h3, h4⟩ := zgd h; exact ⟨i, v, by omega, by omega, h3, h4⟩
theorem znQ {f : Nat → Option Value} {i : Nat} {v : Value} : ∀ {m a : Nat}, f i = some v → a ≤ i → i < a + m → (Lit.int .i64 (i : Int), DataW.held v) ∈ kvL f a m
 | 0, a, hf, h1, h2 => by omega
 | m + 1, a, hf, h1, h2 => by
  rw [kvL]
  by_cases h : a = i
  ·subst h; rw [hf]; exact List.mem_cons_self ..
  ·have ih := znQ (m := m) (a := a + 1) hf (by omega) (by omega)
   split
   ·exact List.mem_cons_of_mem _ ih
   ·exact ih
theorem has_kvL {f : Nat → Option Value} {i N : Nat} (hi : i < N) : Maps.has (DataW.map (kvL f 0 N)) (.int .i64 (i : Int)) = (f i).isSome := by
 cases hf : f i with
 | some v => exact List.any_eq_true.2 ⟨_, znQ hf (Nat.zero_le _) (by omega), by rw [zdv]; simp⟩
 | none =>
  refine List.any_eq_false.2 fun x hx => ?_
  obtain ⟨j, v, h1, h2, h3, rfl⟩ := zgd hx
  rw [zdv]
  simp
  rintro rfl
  rw [hf] at h3; cases h3
def zkt (P : Program) (k : TypeId) (w : World) (m r N : Nat) (f : Nat → Option Value) (left : Nat → Bool) (cnt : Nat) : Prop :=
 ∃ L, w.ranges P k RH m r N (.map (kvL f 0 N)) L cnt ∧ ∀ i, i < N → L (.int .i64 (i : Int)) = left i
namespace zkt
variable {P : Program} {k : TypeId} {w w' : World} {m r N cnt : Nat} {f : Nat → Option Value} {left : Nat → Bool}
theorem map (h : zkt P k w m r N f left cnt) : MapAt P k w m N f := by
 obtain ⟨L, h1, _⟩ := h
 exact h1.owns
theorem lt (h : zkt P k w m r N f left cnt) : r < w.heap.size := by
 obtain ⟨L, h1, _⟩ := h
 exact h1.lt
theorem ne (h : zkt P k w m r N f left cnt) : r ≠ m := by
 obtain ⟨L, h1, _⟩ := h
 exact h1.ne
theorem kpd {M : List Nat} (h : zkt P k w m r N f left cnt) (hk : Kp M w w') (hM : m ∉ M ∧ r ∉ M) : zkt P k w' m r N f left cnt := by
 have h1 := h.map.lt
 have h2 := h.lt
 obtain ⟨L, h3, h4⟩ := h
 exact ⟨L, zks h3 (hk.block m h1 hM.1) (hk.block r h2 hM.2), h4⟩
theorem new (h : zkt P k w m r N f left cnt) (hb : Below w.heap.size w w') : zkt P k w' m r N f left cnt := h.kpd (M := []) (Kp.of_below hb) (by simp)
theorem only {g : Nat} (h : zkt P k w m r N f left cnt) (ho : Only g w w') (hg : m ≠ g ∧ r ≠ g) : zkt P k w' m r N f left cnt := h.kpd (Kp.za7 ho) (by simpa using hg)
end zkt
section
variable {P : Program} {ρ : Env} {w : World} {d : Option Nat} {ty : TypeId} {pos : String} {af : Array Edge} {gd : Option (Nat × Bool)} {K : Value → World → Prop} {Kw : World → Prop}
theorem znR {t k e : TypeId} {x : Operand} {m N : Nat} {f : Nat → Option Value} (ht : P.underlying t = some (.map k e)) (hk : P.underlying k = some (.int .i64)) (hm : MapAt P k w m N f) (hx : ev ρ x = .map (some m))
  (h : ∀ r w' cnt, w.heap.size ≤ r → zkt P k w' m r N f (fun i => (f i).isSome) cnt → Below w.heap.size w w' → K (.pointer (some ⟨r, 0, none⟩)) w') : Mk P ρ w ⟨d, .range t x, ty, pos, af, gd⟩ K := by
 obtain ⟨w', hr, h1, h2, h3⟩ := World.ownsMap.range hm (int_keyed hk) ht
 refine ⟨_, w', ?_, h _ w' _ (Nat.le_refl _) ⟨_, h1, fun i hi => has_kvL hi⟩ ⟨h2.os, h2.tape, h2.output, h2.size, fun i hi => h2.block i hi (by simp)⟩⟩
 simp [execOp, hx, hr, Result.andThen]
theorem zoW {x : Operand} {k : TypeId} {m r N cnt : Nat} {f : Nat → Option Value} {left : Nat → Bool} (hk : P.underlying k = some (.int .i64)) (hg : zkt P k w m r N f left cnt) (hx : ev ρ x = .pointer (some ⟨r, 0, none⟩))
  (h0 : (∀ i, i < N → left i = false) → K (.tuple #[.bool false]) w)
  (h1 : ∀ (i : Nat) (v : Value) (w' : World) (cnt' : Nat), i < N → left i = true → f i = some v → zkt P k w' m r N f (fun j => left j && !decide (j = i)) cnt' → cnt' < cnt → Only r w w' →
   (Instr.entry (.pointer (some ⟨r, 0, none⟩))).run P w' = .ok (.tuple #[.int .i64 (i : Int), v]) w' → K (.tuple #[.bool true, .int .i64 (i : Int), v]) w') : Mk P ρ w ⟨d, .next x false, ty, pos, af, gd⟩ K := by
 obtain ⟨L, hg, hL⟩ := hg
 rcases hg.next (int_keyed hk) ty with ⟨hc, hl, hrun⟩ | ⟨key, v, kl, y, w', cnt', hkey, hlk, hv, hat, hrun, hrg, hlt, hgr, hsz, hen⟩
 ·exact ⟨_, _, by simp [execOp, hx, hrun, Result.andThen], h0 fun i hi => by rw [← hL i hi]; exact hl _⟩
 ·obtain ⟨z, hz⟩ := zl8 hg hlk rfl
  obtain ⟨i, u, _, hi, hfi, he⟩ := zgd hz
  have hkl : kl = .int .i64 (i : Int) := congrArg Prod.fst he
  obtain ⟨a, rfl, ekl, _⟩ := Maps.keyOf_int_inv hk hkey
  rw [hkl] at ekl
  injection ekl with _ ekl
  subst ekl
  have hi' : i < N := by omega
  have hu : u = v := by
   have h3 := hat (.held u)
   rw [hkl] at h3
   have h4 : (some (DataW.held v, ([] : List MemPlace))) = some y := hv
   injection h4 with h4
   rw [← h4] at h3
   unfold DataW.atKey at h3
   simp only [zf7 N 0 (Nat.zero_le _) (by omega : i < 0 + N), hfi] at h3
   injection h3
  subst hu
  refine ⟨_, w', by simp [execOp, hx, hrun, Result.andThen], h1 i u w' cnt' hi' (by rw [← hL i hi', ← hkl]; exact hlk) hfi ⟨_, hrg, fun j hj => ?_⟩ hlt ⟨hgr.os, hgr.tape, hgr.output, hsz, fun q hq => ?_⟩ hen⟩
  ·rw [hL j hj, hkl, zdv]
  ·by_cases hql : q < w.heap.size
   ·exact hgr.block q hql (by simpa using hq)
   ·rw [Array.getElem?_eq_none (by omega), Array.getElem?_eq_none (by omega)]
theorem zoX {x : Operand} {r : Nat} {v : Value} (hx : ev ρ x = .pointer (some ⟨r, 0, none⟩)) (hen : (Instr.entry (.pointer (some ⟨r, 0, none⟩))).run P w = .ok v w) : (execOp (ev ρ) ⟨d, .entry x, ty, pos, af, gd⟩).run P w = .ok (.value v) w := by
 simp [execOp, hx, hen, Result.andThen]
end
end Coup
namespace Go.Proofs.YtdbogkndglbffaaGreat
open Go Go.RowKit Coup
theorem GZ.congr {q N : Nat} {G G' V : Nat → Pg} {k : Nat} {w : World} {B : List Nat} (h : GZ q N G V k w B) (he : ∀ n, n < N → G n = G' n) : GZ q N G' V k w B := by
 obtain ⟨P, h1, h2⟩ := h
 exact ⟨P, ⟨h1.i, h1.n, fun n hn => (h1.g n hn).trans (he n hn), h1.s⟩, h2⟩
theorem zgY {X X' Y : World → List Nat → Prop} {lo : Nat} {L : List Nat} {w : World} (h : Two X Y lo L w) (he : ∀ B, X w B → X' w B) : Two X' Y lo L w := by
 obtain ⟨⟨B, C, h1, h2, h3, h4⟩, h5, h6⟩ := h
 exact ⟨⟨B, C, he B h1, h2, h3, h4⟩, h5, h6⟩
section
variable {Y : World → List Nat → Prop} [hYT : Thing Y] {q jb mw N lo : Nat} {L : List Nat} {G0 G V : Nat → Pg} {k : Nat} {F : Fst} {w : World}
set_option maxRecDepth 20000 in
theorem undoN (a b c : Value) (w : World) : CallsDIn Fence.wide 8 Tryz.prog 111 [a, b, c].toArray .returning w (fun en u' w' => u' = .returning ∧ Ret (fun _ w' => Below w.heap.size w w') en w') := by
 have hB := Below.refl w.heap.size w
 refine zhG (fn := Tryz.f111) (rs := []) (n := 36) (x := .nilIface) (u := .returning) (u2 := .returning) Tryz.func111 rfl rfl Tryz.ntmps111 (by kernel_rfl) rfl rfl rfl (fun c₀ cs h => .inr ⟨rec_no c₀ cs h, rfl, rfl⟩) ?_
 refine zaf (zaa (zad (zab) ?_))
 refine zad (zl5 (z := .agg #[.int .i64 0]) (by kernel_rfl) rfl (by intro w; first | kernel_rfl | rfl)) ?_
 refine zad (zab) (zad (zai rfl rfl) (zad (zai rfl rfl) ?_))
 refine zay rfl (zar ([Value.int .i64 0]) (by kernel_rfl) (fun g4 w4 hg4 hr4 hb4 => ?_))
 have ge_hB_g4 := Nat.le_trans hB.size hg4
 replace hB := hB.acc hb4
 refine zaG rfl (zaO 1 ([.int .i64 0]) hr4 (fun w901 hr4 ho901 => ?_))
 replace hB := ho901.below hB ge_hB_g4
 refine zad (zac) (zae (zah (zaE (zaf (zaa (zad (zab) (zad (zac) (zae (zah ?_)))))))))
 refine zjC rfl (rfl) ?_
 refine zaf (zaa (zad (zab) ?_))
 refine zad (zoU (by kernel_rfl) rfl) ?_
 refine zad (zac) (zae (zah ?_))
 refine zjC rfl (rfl) ?_
 refine zau (za6 ?_)
 refine zgQ [] trivial ?_
 exact hB
set_option maxRecDepth 20000 in
set_option maxHeartbeats 1000000 in
theorem undoP (e : Int) (ga gb ge : Nat) (v0 : Value) (h : Two (JZ q jb mw N G0 G V k F) Y lo L w) (hx1 : row w ga [.pointer (some ⟨jb, 0, none⟩)] 81) (hx2 : row w gb [.pointer (some ⟨q, 0, none⟩)] 25) (hx3 : row w ge [v0] 39)
   (ha : ga ∈ L) (hb : gb ∈ L) (he : ge ∈ L) (hab : ge ≠ ga ∧ ge ≠ gb) (hlo : lo ≤ ge) {L2 : List Nat} (hL2 : ∀ b ∈ L2, b ∈ L) (h2 : ge ∉ L2) :
   CallsDIn Fence.wide 8 Tryz.prog 111 [.pointer (some ⟨ga, 0, none⟩), .pointer (some ⟨gb, 0, none⟩), .pointer (some ⟨ge, 0, none⟩)].toArray (.panicking (pe (zdN e))) w (fun en u' w' => u' = .panicking [{ v := zdN e, recovered := true }] ∧ Ret (fun _ w' => Two (GZ q N G0 V k) Y lo L w' ∧ row w' ge [.int .i64 e] 39 ∧ LoL lo L2 w w') en w') := by
 have hN := (zhb h).1
 obtain ⟨c, h⟩ := zcO h
 have hLL := LoL.refl lo L2 w
 have hj := h.znE
 have hm := h.map
 have hwas := h.was
 have hne := h.ne
 have hjl := h.jl
 have hml := h.ml
 have hp := h.p
 have hgl := (zii hp).2.2
 have hjn : jb ∉ L2 := fun hx => hjl.2 (hL2 _ hx)
 have hga := hx1.lt
 have hgb := hx2.lt
 have hge := hx3.lt
 have hje : jb ≠ ge := fun e => hjl.2 (e ▸ he)
 have hme : mw ≠ ge := fun e => hml.2 (e ▸ he)
 have hloL := hp.lo
 have hLt : ∀ b ∈ L, b < w.heap.size := fun b hb => hp.lt b (by simp [hb])
 refine zhG (fn := Tryz.f111) (rs := []) (n := 36) (x := zdN e) (u := .panicking (pe (zdN e))) (u2 := .panicking [{ v := zdN e, recovered := true }]) Tryz.func111 rfl rfl Tryz.ntmps111 (by kernel_rfl) rfl rfl rfl (fun c₀ cs h => .inl (rec_pe _ c₀ cs h)) ?_
 refine zaf (zaa (zad (zab) ?_))
 refine zad (zl4 (by kernel_rfl) rfl) ?_
 refine zad (zab) (zad (zai rfl rfl) (zad (zai rfl rfl) ?_))
 refine zay rfl (zar ([Value.int .i64 0]) (by kernel_rfl) (fun g4 w4 hg4 hr4 hb4 => ?_))
 have lt_ga_g4 : ga < g4 := Nat.lt_of_lt_of_le hx1.lt hg4
 have lt_gb_g4 : gb < g4 := Nat.lt_of_lt_of_le hx2.lt hg4
 have lt_ge_g4 : ge < g4 := Nat.lt_of_lt_of_le hx3.lt hg4
 have lt_jb_g4 : jb < g4 := Nat.lt_of_lt_of_le hj.lt hg4
 have lt_mw_g4 : mw < g4 := Nat.lt_of_lt_of_le hm.lt hg4
 replace hp := hp.newc hb4 hg4 hr4.lt
 replace hLL := hLL.new hb4
 replace hx1 := hx1.new hb4
 replace hx2 := hx2.new hb4
 replace hx3 := hx3.new hb4
 replace hj := hj.new hb4
 replace hm := hm.new hb4
 refine zaG rfl (zaO 1 ([.int .i64 e]) hr4 (fun w901 hr4 ho901 => ?_))
 replace hp := hp.only ho901 (by first | (right; simp; done) | (left; omega) | (right; simp [*]; done))
 replace hLL := hLL.oq ho901
 replace hx1 := hx1.only ho901 (Nat.ne_of_lt lt_ga_g4)
 replace hx2 := hx2.only ho901 (Nat.ne_of_lt lt_gb_g4)
 replace hx3 := hx3.only ho901 (Nat.ne_of_lt lt_ge_g4)
 replace hj := hj.only ho901 (Nat.ne_of_lt lt_jb_g4)
 replace hm := hm.only ho901 (Nat.ne_of_lt lt_mw_g4)
 refine zad (zac) (zae (zah (zaE (zaf (zaa (zad (zab) (zad (zac) (zae (zah ?_)))))))))
 refine zin rfl (rfl) ?_
 refine zaf (zaf (zaa ?_))
 refine zad (zax hx1) ?_
 refine zad (zak rfl) (zad (zav 6) ?_)
 refine zad (zax hj) ?_
 have zb := hx2.lt
 have ze := hx3.lt
 have z4 := hr4.lt
 have zs := hLL.size
 refine zay rfl (znR (k := 3) (e := 62) (by kernel_rfl) (by kernel_rfl) hm rfl (fun r w20 cnt hr0 hrg hb20 => ?_))
 replace hp := hp.newc hb20 hr0 hrg.lt
 replace hLL := hLL.new hb20
 replace hx2 := hx2.new hb20
 replace hx3 := hx3.new hb20
 replace hr4 := hr4.new hb20
 refine zae (zah (zaE ?_))
 have hrne := hrg.ne
 have hr4l := hr4.lt
 have hobt : ∃ L3, r :: g4 :: jb :: mw :: L = L3 := ⟨_, rfl⟩
 obtain ⟨L3, hL3⟩ := hobt
 have hp3 : Two (GZ q N G V k) Y lo L3 w20 := by rw [← hL3]; exact hp
 have hmem : r ∈ L3 ∧ g4 ∈ L3 ∧ mw ∈ L3 ∧ ∀ b ∈ L, b ∈ L3 := by rw [← hL3]; exact ⟨by simp, by simp, by simp, fun b hb => by simp [hb]⟩
 obtain ⟨hrL, h4L, hmL, hLs⟩ := hmem
 have hL2s : ∀ b ∈ L2, b ∈ L3 := fun b hb => hLs b (hL2 b hb)
 have haL := hLs _ ha
 have hbL := hLs _ hb
 have heL := hLs _ he
 refine zbB (α := Nat × (Nat → Pg) × (Nat → Bool)) (cnt, G, fun i => (zdl c i).isSome) (fun _ => [(1, .pointer (some ⟨gb, 0, none⟩)), (2, .pointer (some ⟨ge, 0, none⟩)), (4, .pointer (some ⟨g4, 0, none⟩)), (20, .pointer (some ⟨r, 0, none⟩))])
   (fun s w' => zkt Tryz.prog 3 w' mw r N (zdl c) s.2.2 s.1 ∧ (∀ n, n < N → s.2.2 n = false → s.2.1 n = G0 n) ∧ Two (GZ q N s.2.1 V k) Y lo L3 w' ∧ row w' gb [.pointer (some ⟨q, 0, none⟩)] 25 ∧ row w' ge [v0] 39 ∧ row w' g4 [.int .i64 e] 160 ∧ LoL lo L2 w w') (fun s => s.1)
   ⟨rfl, rfl, rfl, rfl, rfl⟩ ⟨hrg, fun n hn hl => ?_, hp3, hx2, hx3, hr4, hLL⟩ ?_
 · refine (hwas.no n hn ?_)
   dsimp only at hl
   cases hc : c n with
   | none => rfl
   | some x => unfold zdl at hl; rw [hc] at hl; cases hl
 clear hx2 hx3 hr4 hLL hrg
 rintro ⟨cn, Gi, left⟩ f0 wr ⟨hrg, hdn, hp, hx2, hx3, hr4, hLL⟩
 dsimp only at hrg hdn hp ⊢
 refine zaf (zaa ?_)
 refine zay rfl (zoW (by kernel_rfl) hrg rfl (fun hdone => ?_) (fun i v w902 cntN hiN hleftN hfN hrgN hltN hoN henN => ?_))
 ·
  refine zad (zai rfl rfl) (zae (zah (zaf ?_)))
  refine zjC rfl (rfl) ?_
  refine zbm (zbW (zcr (zbt (zah ?_))))
  have hp2 := (zgY hp fun B hB => GZ.congr hB (G' := G0) fun n hn => hdn n hn (hdone n hn))
  refine zaa (zad (zav 0) ?_)
  refine zad (zax hr4) ?_
  refine zaG rfl (zbg hx3 (fun w903 hx3 ho903 => ?_))
  replace hLL := hLL.oq ho903
  replace hp2 := hp2.only ho903 (by first | (right; simp; done) | (left; omega) | (right; simp [*]; done))
  refine zae (za6 ?_)
  refine zgQ [] trivial ?_
  exact ⟨hp2.weak hLs, hx3, hLL⟩
 ·
  obtain ⟨x, hx, hv⟩ : ∃ x, c i = some x ∧ v = .agg (bv x).toArray := by
    unfold zdl at hfN
    cases hc : c i with
    | none => rw [hc] at hfN; cases hfN
    | some x => rw [hc] at hfN; exact ⟨x, rfl, (Option.some.inj hfN).symm⟩
  subst hv
  have hxl := hwas.len i x hx
  have hxbl : (bv x).length = 512 := by rw [zal]; exact hxl
  have hx0 := (hwas.yes i x hx).2
  have hpu := fun L' w' (h' : Two (GZ q N Gi V k) Y lo L' w') => gPut h' i hiN hxl
  replace hp := hp.only hoN (.inr hrL)
  replace hx2 := hx2.only hoN (fun e => by have := hrgN.lt; omega)
  replace hx3 := hx3.only hoN (by omega)
  replace hr4 := hr4.only hoN (by omega)
  replace hLL := hLL.only hoN (by left; omega)
  have zr := hrgN.lt
  have zm := hrgN.map.lt
  refine zad (zai rfl rfl) (zae (zah (zaf ?_)))
  refine zin rfl (rfl) ?_
  refine zau (zah (zaE (zaf (zaa ?_))))
  refine zad (zoX rfl henN) ?_
  refine zad (zai rfl rfl) (zad (zai rfl rfl) ?_)
  refine zay rfl (zar (List.replicate 512 (Value.int .u8 0)) (by kernel_rfl) (fun g7 w7 hg7 hr7 hb7 => ?_))
  have lt_gb_g7 : gb < g7 := Nat.lt_of_lt_of_le hx2.lt hg7
  have lt_ge_g7 : ge < g7 := Nat.lt_of_lt_of_le hx3.lt hg7
  have lt_g4_g7 : g4 < g7 := Nat.lt_of_lt_of_le hr4.lt hg7
  replace hp := hp.newc hb7 hg7 hr7.lt
  replace hLL := hLL.new hb7
  replace hx2 := hx2.new hb7
  replace hx3 := hx3.new hb7
  replace hr4 := hr4.new hb7
  replace hrgN := hrgN.new hb7
  refine zad (zac) ?_
  refine zaG rfl (zaO 512 (bv x) hr7 (fun w904 hr7 ho904 => ?_))
  replace hp := hp.only ho904 (by first | (right; simp; done) | (left; omega) | (right; simp [*]; done))
  replace hLL := hLL.oq ho904
  replace hx2 := hx2.only ho904 (Nat.ne_of_lt lt_gb_g7)
  replace hx3 := hx3.only ho904 (Nat.ne_of_lt lt_ge_g7)
  replace hr4 := hr4.only ho904 (Nat.ne_of_lt lt_g4_g7)
  replace hrgN := hrgN.only ho904 (by omega)
  refine zae (zah (zaa ?_))
  refine zad (zax hx2) ?_
  refine zad (zab) ?_
  refine zad (zbc 512 hr7) ?_
  refine zao rfl (zaj (by kernel_rfl) rfl) (hpu _ w904 hp) ?_
  rintro _ w29 ⟨rfl, hp, hb29⟩
  replace hrgN := hrgN.kpd hb29.kp ⟨zaq (.inr (by simp [hmL])), zaq (.inr (by simp [hrL]))⟩
  replace hLL := hLL.ll hb29 (fun b hb => List.mem_cons_of_mem _ (hL2s b hb))
  replace hx2 := hx2.kl hb29
  replace hx3 := hx3.kl hb29
  replace hr4 := hr4.kl hb29
  refine zae (za6 ?_)
  refine zbw ⟨(cntN, zfv Gi i x, fun j => left j && !decide (j = i)), hltN, ⟨rfl, rfl, rfl, rfl, rfl⟩, hrgN, fun n hn hl => ?_, hp.weak (fun b hb => by simp [hb]), hx2, hx3, hr4, hLL⟩
  dsimp only at hl ⊢
  unfold zfv
  by_cases hni : n = i
  · rw [if_pos hni, hni, hx0]
  · rw [if_neg hni]
    refine hdn n hn ?_
    rw [decide_eq_false hni] at hl
    simpa using hl
end
theorem znS {P : Program} {f : FuncId} {args : Array Value} {w : World} {A : Value → World → Prop} (h : Calls P f args w (zih A fun _ _ => False)) : Calls P f args w (Ret A) :=
 h.mono fun e w' h => by
  cases e with
  | returned v => exact ⟨v, rfl, h⟩
  | panicked c => exact h.elim
  | outgrown => exact h.elim
structure HR (N : Nat) (G : Nat → Pg) (H : HS) (fl : List Nat) : Prop where
 ok : HOk N H fl
 g0 : G 0 = zaD (zcB H.F)
 s : ∀ n, 1 ≤ n → n < H.F.fresh → G n = zaD (H.S n)
 z : ∀ n, H.F.fresh ≤ n → n < N → G n = zbl
theorem zku (F : Fst) : ∀ v ∈ zfA F, Value.oneCell' v = true := fun v hv => by
 simp only [zfA, List.mem_cons, List.not_mem_nil, or_false] at hv
 rcases hv with rfl | rfl | rfl | rfl | rfl <;> rfl
theorem zij.nil {N : Nat} {G : Nat → Pg} : zij N G G noP := ⟨(fun n x h => nomatch h), fun n _ _ => rfl, (fun n x h => nomatch h)⟩
def fi (F : Fst) : List Int := [(F.fresh : Int), (F.free : Int), (F.many : Int), (F.records : Int), (F.root : Int)]
theorem fi_inj {F F' : Fst} (h : fi F = fi F') : F = F' := by
 simp only [fi, List.cons.injEq, and_true] at h
 obtain ⟨h1, h2, h3, h4, h5⟩ := h
 cases F; cases F'
 simp only [Fst.mk.injEq] at *
 omega
section
variable {ρ : Env} {w : World} {rs : List ResultVar} {A : Value → World → Prop} {B : List PanicEntry → World → Prop}
theorem zli {a b c : Value} (hms : ρ.ms = [.fn 111 [a, b, c] []]) (h : ∀ w', Below w.heap.size w w' → ∃ vs, zg5 Tryz.prog w' ρ rs vs ∧ A (pack vs) w') : zjv Tryz.prog rs A B .ret ρ w := by
 show zdw Tryz.prog rs A B ρ ρ.ms .returning w
 rw [hms]
 refine ⟨by simp, by kernel_rfl, (undoN a b c w).mono ?_⟩
 rintro e u' w' ⟨rfl, v, rfl, hb⟩
 exact h w' hb
theorem zoY {Y : World → List Nat → Prop} [Thing Y] {q jb mw N lo : Nat} {L : List Nat} {G0 G V : Nat → Pg} {k : Nat} {F : Fst} (e : Int) (ga gb ge : Nat) (v0 : Value) (hms : ρ.ms = [.fn 111 [.pointer (some ⟨ga, 0, none⟩), .pointer (some ⟨gb, 0, none⟩), .pointer (some ⟨ge, 0, none⟩)] []])
  (h : Two (JZ q jb mw N G0 G V k F) Y lo L w) (ra : row w ga [.pointer (some ⟨jb, 0, none⟩)] 81) (rb : row w gb [.pointer (some ⟨q, 0, none⟩)] 25) (re : row w ge [v0] 39)
  (ha : ga ∈ L) (hb : gb ∈ L) (he : ge ∈ L) (hab : ge ≠ ga ∧ ge ≠ gb) (hlo : lo ≤ ge) {L2 : List Nat} (hL2 : ∀ b ∈ L2, b ∈ L) (h2 : ge ∉ L2)
  (hA : ∀ w', Two (GZ q N G0 V k) Y lo L w' → row w' ge [.int .i64 e] 39 → LoL lo L2 w w' → ∃ vs, zg5 Tryz.prog w' ρ rs vs ∧ A (pack vs) w') : zjv Tryz.prog rs A B (.panic (pe (zdN e))) ρ w := by
 show zdw Tryz.prog rs A B ρ ρ.ms (.panicking (pe (zdN e))) w
 rw [hms]
 refine ⟨by simp, by kernel_rfl, (undoP e ga gb ge v0 h ra rb re ha hb he hab hlo hL2 h2).mono ?_⟩
 rintro en u' w' ⟨rfl, v, rfl, h3, h4, h5⟩
 exact hA w' h3 h4 h5
end
section
variable {Y : World → List Nat → Prop} [hYT : Thing Y] {q N lo : Nat} {L : List Nat} {G V : Nat → Pg} {k : Nat} {H : HS} {fl : List Nat} {w : World}
set_option maxRecDepth 20000 in
set_option maxHeartbeats 1000000 in
theorem run64 (h : Two (GZ q N G V k) Y lo L w) (hR : HR N G H fl) (kf : Nat) (caps : List Value) (hcan : zb9 Tryz.prog kf = true)
   (A : HS → List Nat → (World → List Nat → Prop) → Prop) (E : Int → (World → List Nat → Prop) → Prop) (hAT : ∀ H' fl' Y', A H' fl' Y' → Thing Y') (hET : ∀ e Y', E e Y' → Thing Y') (hAF : ∀ H' fl' Y', A H' fl' Y' → H.F.fresh ≤ H'.F.fresh)
   (hdo : ∀ jb mw L' w', (∀ b ∈ L, b ∈ L') → LoL lo L w w' → JH q jb mw N G V k H fl Y lo L' w' → Calls Tryz.prog kf (.pointer (some ⟨jb, 0, none⟩) :: caps).toArray w'
     (zih (fun _ w2 => ∃ H' fl' Y', A H' fl' Y' ∧ JH q jb mw N G V k H' fl' Y' lo L' w2 ∧ LoL lo L' w' w2) (fun c w2 => ∃ e Y', E e Y' ∧ c = pe (zdN e) ∧ JF q jb mw N G V k Y' lo L' w2 ∧ LoL lo L' w' w2))) :
   Calls Tryz.prog 64 [.pointer (some ⟨q, 0, none⟩), .func (.func kf) #[] caps.toArray].toArray w (Ret fun v w' => (∃ H' fl' Y' G', A H' fl' Y' ∧ v = .int .i64 0 ∧ HR N G' H' fl' ∧ Two (GZ q N G' V k) Y' lo L w' ∧ LoL lo L w w') ∨
     (∃ e Y', E e Y' ∧ v = .int .i64 e ∧ Two (GZ q N G V k) Y' lo L w' ∧ LoL lo L w w')) := by
 have hgl := zii h
 have hN := hgl.1
 have hfst := hR.ok.fst hN
 have hget := fun L' w' (h' : Two (GZ q N G V k) Y lo L' w') => gGet h' 0 (by omega)
 have hpg := fun L' w' (h' : Two (GZ q N G V k) Y lo L' w') => zjy h'
 have hfo := fun w' => zl7 H.F N hfst w'
 have hQl := za3 (zdk H.F)
 rw [hR.g0] at hget
 obtain ⟨Q, hQ⟩ : ∃ Q, zaD (zcB H.F) = Q := ⟨_, rfl⟩
 simp only [hQ] at hget hfo hQl
 have hF1 := zku H.F
 have hFl : (zfA H.F).length = 5 := rfl
 have hLt : ∀ b ∈ L, b < w.heap.size := h.lt
 have hlo0 := h.lo
 have hLL := LoL.refl lo L w
 refine znS ?_
 refine zdx (fn := Tryz.f64) (rs := [.cell 4 39]) (n := 48) Tryz.func64 rfl rfl Tryz.ntmps64 (by kernel_rfl) rfl ?_
 refine zaf (zaa ?_)
 refine zay rfl (zaU ([_]) rfl (fun g2 w2 hg2 hr2 hb2 => ?_))
 have sz_g2 := hLL.size
 replace h := h.newc hb2 hg2 hr2.lt
 replace hLL := hLL.new hb2
 refine zay rfl (zar ([Value.int .i64 0]) (by kernel_rfl) (fun g4 w4 hg4 hr4 hb4 => ?_))
 have lt_g2_g4 : g2 < g4 := Nat.lt_of_lt_of_le hr2.lt hg4
 replace h := h.newc hb4 hg4 hr4.lt
 replace hLL := hLL.new hb4
 replace hr2 := hr2.new hb4
 refine zae (zah (zaf (zaa ?_)))
 refine zad (zax hr2) ?_
 refine zao rfl (zaj (by kernel_rfl) rfl) (hget _ w4 h) ?_
 rintro _ w11 ⟨rfl, h, hb11⟩
 replace hLL := hLL.lq hb11
 replace hr2 := hr2.kl hb11
 replace hr4 := hr4.kl hb11
 refine zad (zab) (zad (zai rfl rfl) (zad (zai rfl rfl) ?_))
 refine zay rfl (zar (List.replicate 512 (Value.int .u8 0)) (by kernel_rfl) (fun g5 w5 hg5 hr5 hb5 => ?_))
 have lt_g2_g5 : g2 < g5 := Nat.lt_of_lt_of_le hr2.lt hg5
 have lt_g4_g5 : g4 < g5 := Nat.lt_of_lt_of_le hr4.lt hg5
 replace h := h.newc hb5 hg5 hr5.lt
 replace hLL := hLL.new hb5
 replace hr2 := hr2.new hb5
 replace hr4 := hr4.new hb5
 refine zaG rfl (zaO 512 (bv Q) hr5 (fun w901 hr5 ho901 => ?_))
 replace h := h.only ho901 (by first | (right; simp; done) | (left; omega) | (right; simp [*]; done))
 replace hLL := hLL.oq ho901
 replace hr2 := hr2.only ho901 (Nat.ne_of_lt lt_g2_g5)
 replace hr4 := hr4.only ho901 (Nat.ne_of_lt lt_g4_g5)
 refine zaG rfl (zbg hr4 (fun w902 hr4 ho902 => ?_))
 replace h := h.only ho902 (by first | (right; simp; done) | (left; omega) | (right; simp [*]; done))
 replace hLL := hLL.oq ho902
 replace hr2 := hr2.only ho902 (Nat.ne_of_lt lt_g2_g4)
 replace hr5 := hr5.only ho902 (Nat.ne_of_gt lt_g4_g5)
 refine zae (zah (zaf (zaf (zaa ?_))))
 refine zad (zax hr4) ?_
 refine zad (zaM rfl rfl) ?_
 refine zae (zah ?_)
 refine zcL rfl ((by decide)) ?_
 refine zau (zah ?_)
 refine zmf (α := Nat) (fun g6 => [(1, .func (.func kf) #[] caps.toArray), (2, .pointer (some ⟨g2, 0, none⟩)), (4, .pointer (some ⟨g4, 0, none⟩)), (6, .pointer (some ⟨g6, 0, none⟩)), (7, .bool true)]) (fun g6 w' => row w' g6 (zfA H.F) 83 ∧ Two (GZ q N G V k) Y lo (g6 :: g5 :: g4 :: g2 :: L) w' ∧ row w' g2 [.pointer (some ⟨q, 0, none⟩)] 25 ∧ row w' g4 [.int .i64 0] 39 ∧ LoL lo L w w' ∧ g5 < w'.heap.size) ?_ ?_
 ·
  refine za5 [] (by kernel_rfl) ?_
  intro w903 hb903 hS903
  replace h := h.new hb903
  replace hLL := hLL.new hb903
  replace hr2 := hr2.new hb903
  replace hr4 := hr4.new hb903
  replace hr5 := hr5.new hb903
  have h_d903 := h
  have hLL_d903 := hLL
  have hr2_d903 := hr2
  have hr4_d903 := hr4
  have hr5_d903 := hr5
  refine zbp 0 (fun w' hS' => zaI rfl (Ld.zbX (k := 512) (hr5_d903.kq hS') (by kernel_rfl) (by kernel_rfl) hQl)) ?_
  refine zbp 1 (fun w' hS' => zax (hr2_d903.kq hS')) ?_
  refine zd9 2 7 (by kernel_rfl) ?_ ?_
  ·
   refine zbb rfl rfl (zaj (by kernel_rfl) rfl) (hpg _ w903 h) ?_
   rintro _ w20 ⟨rfl, hb20⟩
   have hS904 := hS903.add0 hb20
   refine ⟨hS904, ?_⟩
   replace h := h.new hb20
   replace hLL := hLL.new hb20
   replace hr2 := hr2.new hb20
   replace hr4 := hr4.new hb20
   replace hr5 := hr5.new hb20
   refine zd9 3 7 (by kernel_rfl) ?_ ?_
   ·
    refine zbb rfl rfl (zaj (by kernel_rfl) rfl) (hfo w20) ?_
    rintro _ w21 ⟨rfl, hb21⟩
    have hS905 := hS904.add0 hb21
    refine ⟨hS905, ?_⟩
    replace h := h.new hb21
    replace hLL := hLL.new hb21
    replace hr2 := hr2.new hb21
    replace hr4 := hr4.new hb21
    replace hr5 := hr5.new hb21
    refine zat 4 (zab) ?_
    refine zat 5 (zai rfl rfl) ?_
    refine zat 6 (zai rfl rfl) ?_
    refine zaH 7 (by kernel_rfl) ?_
    refine zco rfl rfl (zar ([Value.int .i64 0, Value.int .i64 0, Value.int .i64 0, Value.int .i64 0, Value.int .i64 0]) (by kernel_rfl) (fun g6 w6 hg6 hr6 hb6 => ?_))
    have hS906 := hS905.add0 hb6
    refine ⟨hS906, ?_⟩
    have ge_hS905_g6 := Nat.le_trans hS905.size hg6
    have lt_g2_g6 : g2 < g6 := Nat.lt_of_lt_of_le hr2.lt hg6
    have lt_g4_g6 : g4 < g6 := Nat.lt_of_lt_of_le hr4.lt hg6
    have lt_g5_g6 : g5 < g6 := Nat.lt_of_lt_of_le hr5.lt hg6
    replace h := h.newc hb6 hg6 hr6.lt
    replace hLL := hLL.new hb6
    replace hr2 := hr2.new hb6
    replace hr4 := hr4.new hb6
    replace hr5 := hr5.new hb6
    refine zaH 8 (by kernel_rfl) ?_
    refine zbO rfl rfl (zaO 5 (zfA H.F) hr6 (fun w908 hr6 ho908 => ?_))
    have hS907 := hS906.aq ho908
    refine ⟨hS907, ?_⟩
    replace h := h.only ho908 (by first | (right; simp; done) | (left; omega) | (right; simp [*]; done))
    replace hLL := hLL.oq ho908
    replace hr2 := hr2.only ho908 (Nat.ne_of_lt lt_g2_g6)
    replace hr4 := hr4.only ho908 (Nat.ne_of_lt lt_g4_g6)
    replace hr5 := hr5.only ho908 (Nat.ne_of_lt lt_g5_g6)
    refine zat 9 (zac) ?_
    refine zaL (by kernel_rfl) ?_
    refine zbw ⟨g6, ⟨rfl, rfl, rfl, rfl, rfl, rfl⟩, hr6, h.weak (fun b hb => hb), hr2, hr4, hLL, hr5.lt⟩
   ·
    refine zco rfl rfl (zar ([Value.int .i64 0, Value.int .i64 0, Value.int .i64 0, Value.int .i64 0, Value.int .i64 0]) (by kernel_rfl) (fun g6 w6 hg6 hr6 hb6 => ?_))
    have hS909 := hS904.add0 hb6
    refine ⟨hS909, ?_⟩
    have ge_hS904_g6 := Nat.le_trans hS904.size hg6
    have lt_g2_g6 : g2 < g6 := Nat.lt_of_lt_of_le hr2.lt hg6
    have lt_g4_g6 : g4 < g6 := Nat.lt_of_lt_of_le hr4.lt hg6
    have lt_g5_g6 : g5 < g6 := Nat.lt_of_lt_of_le hr5.lt hg6
    replace h := h.newc hb6 hg6 hr6.lt
    replace hLL := hLL.new hb6
    replace hr2 := hr2.new hb6
    replace hr4 := hr4.new hb6
    replace hr5 := hr5.new hb6
    refine zaH 3 (by kernel_rfl) ?_
    refine zbb rfl rfl (zaj (by kernel_rfl) rfl) (hfo w6) ?_
    rintro _ w21 ⟨rfl, hb21⟩
    have hS910 := hS909.add0 hb21
    refine ⟨hS910, ?_⟩
    replace h := h.new hb21
    replace hLL := hLL.new hb21
    replace hr2 := hr2.new hb21
    replace hr4 := hr4.new hb21
    replace hr5 := hr5.new hb21
    replace hr6 := hr6.new hb21
    refine zat 4 (zab) ?_
    refine zat 5 (zai rfl rfl) ?_
    refine zat 6 (zai rfl rfl) ?_
    refine zaH 8 (by kernel_rfl) ?_
    refine zbO rfl rfl (zaO 5 (zfA H.F) hr6 (fun w912 hr6 ho912 => ?_))
    have hS911 := hS910.aq ho912
    refine ⟨hS911, ?_⟩
    replace h := h.only ho912 (by first | (right; simp; done) | (left; omega) | (right; simp [*]; done))
    replace hLL := hLL.oq ho912
    replace hr2 := hr2.only ho912 (Nat.ne_of_lt lt_g2_g6)
    replace hr4 := hr4.only ho912 (Nat.ne_of_lt lt_g4_g6)
    replace hr5 := hr5.only ho912 (Nat.ne_of_lt lt_g5_g6)
    refine zat 9 (zac) ?_
    refine zaL (by kernel_rfl) ?_
    refine zbw ⟨g6, ⟨rfl, rfl, rfl, rfl, rfl, rfl⟩, hr6, h.weak (fun b hb => hb), hr2, hr4, hLL, hr5.lt⟩
  ·
   refine zco rfl rfl (zar ([Value.int .i64 0, Value.int .i64 0, Value.int .i64 0, Value.int .i64 0, Value.int .i64 0]) (by kernel_rfl) (fun g6 w6 hg6 hr6 hb6 => ?_))
   have hS913 := hS903.add0 hb6
   refine ⟨hS913, ?_⟩
   have ge_hS903_g6 := Nat.le_trans hS903.size hg6
   have lt_g2_g6 : g2 < g6 := Nat.lt_of_lt_of_le hr2.lt hg6
   have lt_g4_g6 : g4 < g6 := Nat.lt_of_lt_of_le hr4.lt hg6
   have lt_g5_g6 : g5 < g6 := Nat.lt_of_lt_of_le hr5.lt hg6
   replace h := h.newc hb6 hg6 hr6.lt
   replace hLL := hLL.new hb6
   replace hr2 := hr2.new hb6
   replace hr4 := hr4.new hb6
   replace hr5 := hr5.new hb6
   refine zaH 2 (by kernel_rfl) ?_
   refine zbb rfl rfl (zaj (by kernel_rfl) rfl) (hpg _ w6 h) ?_
   rintro _ w20 ⟨rfl, hb20⟩
   have hS914 := hS913.add0 hb20
   refine ⟨hS914, ?_⟩
   replace h := h.new hb20
   replace hLL := hLL.new hb20
   replace hr2 := hr2.new hb20
   replace hr4 := hr4.new hb20
   replace hr5 := hr5.new hb20
   replace hr6 := hr6.new hb20
   refine zaH 3 (by kernel_rfl) ?_
   refine zbb rfl rfl (zaj (by kernel_rfl) rfl) (hfo w20) ?_
   rintro _ w21 ⟨rfl, hb21⟩
   have hS915 := hS914.add0 hb21
   refine ⟨hS915, ?_⟩
   replace h := h.new hb21
   replace hLL := hLL.new hb21
   replace hr2 := hr2.new hb21
   replace hr4 := hr4.new hb21
   replace hr5 := hr5.new hb21
   replace hr6 := hr6.new hb21
   refine zat 4 (zab) ?_
   refine zat 5 (zai rfl rfl) ?_
   refine zat 6 (zai rfl rfl) ?_
   refine zaH 8 (by kernel_rfl) ?_
   refine zbO rfl rfl (zaO 5 (zfA H.F) hr6 (fun w917 hr6 ho917 => ?_))
   have hS916 := hS915.aq ho917
   refine ⟨hS916, ?_⟩
   replace h := h.only ho917 (by first | (right; simp; done) | (left; omega) | (right; simp [*]; done))
   replace hLL := hLL.oq ho917
   replace hr2 := hr2.only ho917 (Nat.ne_of_lt lt_g2_g6)
   replace hr4 := hr4.only ho917 (Nat.ne_of_lt lt_g4_g6)
   replace hr5 := hr5.only ho917 (Nat.ne_of_lt lt_g5_g6)
   refine zat 9 (zac) ?_
   refine zaL (by kernel_rfl) ?_
   refine zbw ⟨g6, ⟨rfl, rfl, rfl, rfl, rfl, rfl⟩, hr6, h.weak (fun b hb => hb), hr2, hr4, hLL, hr5.lt⟩
 ·
  rintro g6 f6 w6 ⟨hr6, h, hr2, hr4, hLL, hl5⟩
  have hl2 := hr2.lt
  have hl4 := hr4.lt
  have hl6 := hr6.lt
  refine zaf (zaf (zaa (zad (zab) ?_)))
  refine zad (zbS rfl) ?_
  refine zae (zah ?_)
  refine ziw rfl (rfl) ?_
  refine zau (zah (zaf (zaa ?_)))
  refine zad (zaI rfl (Ld.zbX (k := 5) hr6 (by kernel_rfl) (by kernel_rfl) rfl)) ?_
  refine zad (zax hr2) ?_
  refine zay rfl (zev (k := 3) N (fun m28 w28 hg28 hm28 hb28 => ?_))
  replace h := h.newc hb28 hg28 hm28.lt
  replace hLL := hLL.new hb28
  replace hr2 := hr2.new hb28
  replace hr4 := hr4.new hb28
  replace hr6 := hr6.new hb28
  refine zad (zgK (.agg (zfA H.F).toArray) (.pointer (some ⟨q, 0, none⟩)) (.map (some m28)) (jV H.F q m28) rfl rfl rfl (by kernel_rfl)) ?_
  have hlm := hm28.lt
  refine zay rfl (zaU (jV H.F q m28) rfl (fun g30 w30 hg30 hr30 hb30 => ?_))
  have lt_g2_g30 : g2 < g30 := Nat.lt_of_lt_of_le hr2.lt hg30
  have lt_g4_g30 : g4 < g30 := Nat.lt_of_lt_of_le hr4.lt hg30
  have lt_g6_g30 : g6 < g30 := Nat.lt_of_lt_of_le hr6.lt hg30
  have lt_m28_g30 : m28 < g30 := Nat.lt_of_lt_of_le hm28.lt hg30
  replace h := h.newc hb30 hg30 hr30.lt
  replace hLL := hLL.new hb30
  replace hr2 := hr2.new hb30
  replace hr4 := hr4.new hb30
  replace hr6 := hr6.new hb30
  replace hm28 := hm28.new hb30
  replace hr30 : row w30 g30 (jV H.F q m28) 86 := hr30
  have hl30 := hr30.lt
  refine zay rfl (zar ([Value.pointer none]) (by kernel_rfl) (fun g8 w8 hg8 hr8 hb8 => ?_))
  have lt_g2_g8 : g2 < g8 := Nat.lt_of_lt_of_le hr2.lt hg8
  have lt_g4_g8 : g4 < g8 := Nat.lt_of_lt_of_le hr4.lt hg8
  have lt_g6_g8 : g6 < g8 := Nat.lt_of_lt_of_le hr6.lt hg8
  have lt_m28_g8 : m28 < g8 := Nat.lt_of_lt_of_le hm28.lt hg8
  have lt_g30_g8 : g30 < g8 := Nat.lt_of_lt_of_le hr30.lt hg8
  replace h := h.newc hb8 hg8 hr8.lt
  replace hLL := hLL.new hb8
  replace hr2 := hr2.new hb8
  replace hr4 := hr4.new hb8
  replace hr6 := hr6.new hb8
  replace hm28 := hm28.new hb8
  replace hr30 := hr30.new hb8
  refine zaG rfl (zbg hr8 (fun w918 hr8 ho918 => ?_))
  replace h := h.only ho918 (by first | (right; simp; done) | (left; omega) | (right; simp [*]; done))
  replace hLL := hLL.oq ho918
  replace hr2 := hr2.only ho918 (Nat.ne_of_lt lt_g2_g8)
  replace hr4 := hr4.only ho918 (Nat.ne_of_lt lt_g4_g8)
  replace hr6 := hr6.only ho918 (Nat.ne_of_lt lt_g6_g8)
  replace hm28 := hm28.only ho918 (Nat.ne_of_lt lt_m28_g8)
  replace hr30 := hr30.only ho918 (Nat.ne_of_lt lt_g30_g8)
  refine zae (zah (zaf ?_))
  have hl8 := hr8.lt
  have hls := hLL.size
  have hJ : ∃ L9, (∀ b ∈ L, b ∈ L9) ∧ g8 ∈ L9 ∧ g6 ∈ L9 ∧ g4 ∈ L9 ∧ g2 ∈ L9 ∧ JH q g30 m28 N G V k H fl Y lo L9 w918 := ⟨g8 :: g6 :: g5 :: g4 :: g2 :: L, fun b hb => by simp [hb], by simp, by simp, by simp, by simp, hR.ok, G, ⟨hR.s, rfl, fun _ _ => rfl⟩, zik (c := noP) (h.weak fun b hb => by
    simp only [List.mem_cons] at hb ⊢
    rcases hb with h | h | h | h | h | h | h | h <;> simp [h]) hr30 hm28 zij.nil (by omega) ⟨by omega, fun hm => by
    simp only [List.mem_cons] at hm
    rcases hm with h | h | h | h | h | h
    · omega
    · omega
    · omega
    · omega
    · omega
    · have := hLt _ h; omega⟩ ⟨by omega, fun hm => by
    simp only [List.mem_cons] at hm
    rcases hm with h | h | h | h | h | h
    · omega
    · omega
    · omega
    · omega
    · omega
    · have := hLt _ h; omega⟩⟩
  obtain ⟨L9, hLs, h8L, h6L, h4L, h2L, hJ⟩ := hJ
  have h4n : g4 ∉ L := fun hm => by have := hLt _ hm; omega
  refine zaa (zad (zaW) ?_)
  refine zoN (fun _ h => h) rfl rfl ?_
  refine zae (zah (zaf (zaa (zad (zab) ?_))))
  refine zad (zax hr8) ?_
  refine zen rfl (zbL hcan rfl rfl) (hdo g30 m28 _ w918 hLs hLL hJ) ((fun c w' ⟨e, Y2, hE, hc, ⟨G2, F2, hT2⟩, hl⟩ => by subst hc; haveI := hET _ _ hE; exact zoY e g8 g2 g4 _ rfl hT2 (hr8.kl hl (.inr h8L)) (hr2.kl hl (.inr h2L)) (hr4.kl hl (.inr h4L)) h8L h2L h4L ⟨by omega, by omega⟩ (by omega) hLs h4n (fun w3 h3 h4 h5 => ⟨[_], ⟨⟨_, rfl, Ld.zdY h4 (by kernel_rfl) rfl⟩, trivial⟩, .inr ⟨e, Y2, hE, rfl, h3.weak hLs, (hLL.ll hl hLs).ll h5 (fun b hb => hb)⟩⟩))) ?_
  rintro _ w34 ⟨H2, fl2, Y2, hA2, hJ2, hb34⟩
  haveI := hAT _ _ _ hA2
  replace hLL := hLL.ll hb34 hLs
  replace hr2 := hr2.kl hb34
  replace hr4 := hr4.kl hb34
  replace hr6 := hr6.kl hb34
  replace hr8 := hr8.kl hb34
  refine zae (zah (zaf (zaf ?_)))
  obtain ⟨hH2, G2, hG2, hT2⟩ := hJ2
  have hobt := zcO hT2
  obtain ⟨c2, hA9⟩ := hobt
  have hj2 := hA9.row
  have hld : ∀ w', row w' g30 (jV H2.F q m28) 86 → Ld Tryz.prog w' 83 ⟨g30, 0, none⟩ (.agg (zfA H2.F).toArray) := fun w' hr => Ld.rowN (k := 5) hr (by kernel_rfl) (by kernel_rfl) (by show 0 + 5 ≤ 7; omega)
  have hpg2 := fun w' => zlg H2.F w'
  have hPl := zbv (zcB H2.F) (zdk H2.F).size
  have hset := fun L' w' (h' : Two (JZ q g30 m28 N G G2 V k H2.F) Y2 lo L' w') => zjz h' 0 (by omega) (zaD (zcB H2.F)) hPl
  have h30 := hA9.jl.1
  refine za5 [] (by kernel_rfl) ?_
  intro w919 hb919 hS919
  replace hLL := hLL.new hb919
  replace hr2 := hr2.new hb919
  replace hr4 := hr4.new hb919
  replace hr6 := hr6.new hb919
  replace hr8 := hr8.new hb919
  replace hT2 := hT2.new hb919
  replace hj2 := hj2.new hb919
  have hLL_d919 := hLL
  have hr2_d919 := hr2
  have hr4_d919 := hr4
  have hr6_d919 := hr6
  have hr8_d919 := hr8
  have hT2_d919 := hT2
  have hj2_d919 := hj2
  refine zbp 0 (fun w' hS' => zax (hr8_d919.kq hS')) ?_
  refine zat 1 (zak rfl) ?_
  refine zat 2 (zav 0) ?_
  refine zbp 3 (fun w' hS' => zaI rfl (hld _ (hj2_d919.kpd hS' (by first | (simp; done) | (simp; omega) | (simp [*]; done) | exact zaq (Or.inl (by omega)) | exact zaq (Or.inr (by simp)) | exact fun g hm => Nat.le_trans (by omega) (zcs hm).1 | (intro b o e; cases e; exact zaq (Or.inl (by omega))) | (intro b hm; have := (hu.lt b (Option.mem_toList.1 hm)).1; omega) | (intro b o e; cases e; intro hm; have := (hu.lt _ (Option.mem_toList.1 hm)).1; omega) | assumption)))) ?_
  refine zbp 4 (fun w' hS' => zaI rfl (Ld.zbX (k := 5) (hr6_d919.kq hS') (by kernel_rfl) (by kernel_rfl) rfl)) ?_
  refine zat 5 (rn_neqI (n := 5) (A := fi H2.F) (B := fi H.F) (by kernel_rfl) rfl rfl rfl rfl) ?_
  refine zaL (by kernel_rfl) ?_
  refine zah ?_
  refine zjB rfl (fun hne => ?_) (fun hne => ?_)
  ·
   refine zcY (lo) (L9) (by kernel_rfl) ?_
   intro w920 hb920 hn920 hS920
   replace hLL := hLL.new hb920
   replace hr2 := hr2.new hb920
   replace hr4 := hr4.new hb920
   replace hr6 := hr6.new hb920
   replace hr8 := hr8.new hb920
   replace hT2 := hT2.new hb920
   replace hj2 := hj2.new hb920
   have hLL_d920 := hLL
   have hr2_d920 := hr2
   have hr4_d920 := hr4
   have hr6_d920 := hr6
   have hr8_d920 := hr8
   have hT2_d920 := hT2
   have hj2_d920 := hj2
   refine zbp 0 (fun w' hS' => zax (hr8_d920.kL hS')) ?_
   refine zbp 1 (fun w' hS' => zax (hr8_d920.kL hS')) ?_
   refine zat 2 (zak rfl) ?_
   refine zat 3 (zav 0) ?_
   refine zaH 4 (by kernel_rfl) ?_
   refine zfS rfl rfl (zaI rfl (hld _ hj2)) hS920 ?_
   refine zaH 5 (by kernel_rfl) ?_
   refine zbb rfl rfl (zaj (by kernel_rfl) rfl) (hpg2 w920) ?_
   rintro _ w46 ⟨rfl, hb46⟩
   have hS922 := hS920.add0 hb46
   refine ⟨hS922, ?_⟩
   replace hLL := hLL.new hb46
   replace hr2 := hr2.new hb46
   replace hr4 := hr4.new hb46
   replace hr6 := hr6.new hb46
   replace hr8 := hr8.new hb46
   replace hT2 := hT2.new hb46
   replace hj2 := hj2.new hb46
   refine zaH 6 (by kernel_rfl) ?_
   refine zbb rfl rfl (zaj (by kernel_rfl) rfl) (hset _ w46 hT2) ?_
   rintro _ w47 ⟨hT3, hb47⟩
   replace hLL := hLL.ll hb47 hLs
   have hS923 := hS922.zgA hn920 hb47.wk
   refine ⟨hS923, ?_⟩
   replace hr2 := hr2.kl hb47
   replace hr4 := hr4.kl hb47
   replace hr6 := hr6.kl hb47
   replace hr8 := hr8.kl hb47
   refine zaL (by kernel_rfl) ?_
   refine zah (zaf (zaa ?_))
   refine zaG rfl (zbg hr4 (fun w924 hr4 ho924 => ?_))
   replace hLL := hLL.oq ho924
   replace hT3 := hT3.only ho924 (by first | (right; simp; done) | (left; omega) | (right; simp [*]; done))
   refine zae (zah (zaz ?_))
   refine zli rfl ?_
   have hobt := zcO hT3
   obtain ⟨c3, hA3⟩ := hobt
   rintro w9 hb9
   refine ⟨[.int .i64 0], ⟨⟨_, rfl, Ld.zdY (hr4.new hb9) (by kernel_rfl) rfl⟩, trivial⟩, .inl ⟨H2, fl2, Y2, _, hA2, rfl, ⟨hH2, if_pos rfl, fun n h1 h2 => ?_, fun n h1 h2 => ?_⟩, (hA3.p.new hb9).weak fun b hb => by simp [hLs b hb], hLL.new hb9⟩⟩
   · exact (if_neg (by omega)).trans (hG2.s n h1 h2)
   · exact (if_neg (by have := hH2.f1; omega)).trans ((hG2.u n h1).trans (hR.z n (Nat.le_trans (hAF _ _ _ hA2) h1) h2))
  ·
   refine zau (zah (zaf (zaa ?_)))
   refine zaG rfl (zbg hr4 (fun w925 hr4 ho925 => ?_))
   replace hLL := hLL.oq ho925
   replace hT2 := hT2.only ho925 (by first | (right; simp; done) | (left; omega) | (right; simp [*]; done))
   refine zae (zah (zaz ?_))
   refine zli rfl ?_
   have heq : H2.F = H.F := fi_inj (by simpa using hne)
   have hobt := zcO hT2
   obtain ⟨c3, hA3⟩ := hobt
   rintro w9 hb9
   exact ⟨[.int .i64 0], ⟨⟨_, rfl, Ld.zdY (hr4.new hb9) (by kernel_rfl) rfl⟩, trivial⟩, .inl ⟨H2, fl2, Y2, _, hA2, rfl, ⟨hH2, by rw [hG2.z0, hR.g0, heq], hG2.s, fun n h1 h2 => (hG2.u n h1).trans (hR.z n (Nat.le_trans (hAF _ _ _ hA2) h1) h2)⟩, (hA3.p.new hb9).weak fun b hb => by simp [hLs b hb], hLL.new hb9⟩⟩
end
def ze5 (Y : World → List Nat → Prop) (g : Nat) (l : List Value) (t : TypeId) : World → List Nat → Prop := fun w C => ∃ C1, C = g :: C1 ∧ Y w C1 ∧ row w g l t ∧ g ∉ C1
instance (Y : World → List Nat → Prop) [hY : Thing Y] (g : Nat) (l : List Value) (t : TypeId) : Thing (ze5 Y g l t) :=
 ⟨fun {w w' B M} ⟨C1, e, h1, h2, h3⟩ k hM => by
  subst e
  exact ⟨C1, rfl, hY.kpd h1 k fun b hb => hM b (by simp [hb]), h2.kpd k (hM g (by simp)), h3⟩, fun {w B} ⟨C1, e, h1, h2, h3⟩ b hb => by
  subst e
  rcases List.mem_cons.1 hb with rfl | hb
  ·exact h2.lt
  ·exact hY.lt h1 b hb⟩
section
variable {X Y : World → List Nat → Prop} [hX : Thing X] [hYT : Thing Y] {lo g : Nat} {L : List Nat} {w w' : World} {l l' : List Value} {t : TypeId}
theorem zkv (h : Two X Y lo L w) (hb : Below w.heap.size w w') (hr : row w' g l t) (hg : w.heap.size ≤ g) : Two X (ze5 Y g l t) lo L w' := by
 have h' := h.new hb
 obtain ⟨⟨B, C, h1, h2, h3, h4⟩, h5, h6⟩ := h
 have k := Kp.of_below (M := []) hb
 refine ⟨⟨B, g :: C, hX.kpd h1 k fun b _ hm => (by cases hm), ⟨C, rfl, hYT.kpd h2 k fun b _ hm => (by cases hm), hr, fun hm => ?_⟩, fun b hb' => ⟨(h3 b hb').1, fun hm => ?_, (h3 b hb').2.2⟩, fun b hb' => ?_⟩, h'.lo, h'.lt⟩
 ·have := hYT.lt h2 g hm; omega
 ·rcases List.mem_cons.1 hm with e | hm
  ·have := hX.lt h1 b hb'; omega
  ·exact (h3 b hb').2.1 hm
 ·rcases List.mem_cons.1 hb' with rfl | hb'
  ·exact ⟨by omega, fun hm => by have := h6 _ hm; omega⟩
  ·exact h4 b hb'
omit hX hYT in
theorem zfy (h : Two X (ze5 Y g l t) lo L w) : row w g l t ∧ lo ≤ g ∧ g ∉ L := by
 obtain ⟨⟨B, C, _, ⟨C1, rfl, _, h3, _⟩, _, h5⟩, _, _⟩ := h
 have := h5 g (by simp)
 exact ⟨h3, this.1, this.2⟩
theorem zlj (h : Two X (ze5 Y g l t) lo L w) (hr : row w' g l' t) (ho : Only g w w') : Two X (ze5 Y g l' t) lo L w' := by
 obtain ⟨⟨B, C, h1, ⟨C1, rfl, h2, h3, h4⟩, h5, h6⟩, h7, h8⟩ := h
 have k := Kp.za7 ho
 refine ⟨⟨B, g :: C1, hX.kpd h1 k fun b hb hm => ?_, ⟨C1, rfl, hYT.kpd h2 k fun b hb hm => h4 (List.mem_singleton.1 hm ▸ hb), hr, h4⟩, h5, h6⟩, Nat.le_trans h7 k.size, fun b hb => Nat.lt_of_lt_of_le (h8 b hb) k.size⟩
 exact (h5 b hb).2.1 (List.mem_singleton.1 hm ▸ by simp)
omit hX hYT in
theorem zge (h : Two X (ze5 Y g l t) lo L w) : Two X Y lo (g :: L) w := by
 obtain ⟨⟨B, C, h1, ⟨C1, rfl, h2, h3, h4⟩, h5, h6⟩, h7, h8⟩ := h
 refine ⟨⟨B, C1, h1, h2, fun b hb => ⟨(h5 b hb).1, fun hm => (h5 b hb).2.1 (by simp [hm]), fun hm => ?_⟩, fun b hb => ⟨(h6 b (by simp [hb])).1, fun hm => ?_⟩⟩, h7, fun b hb => ?_⟩
 ·rcases List.mem_cons.1 hm with rfl | hm
  ·exact (h5 _ hb).2.1 (by simp)
  ·exact (h5 b hb).2.2 hm
 ·rcases List.mem_cons.1 hm with rfl | hm
  ·exact h4 hb
  ·exact (h6 b (by simp [hb])).2 hm
 ·rcases List.mem_cons.1 hb with rfl | hb
  ·exact h3.lt
  ·exact h8 b hb
end
section
variable {Y : World → List Nat → Prop} [hYT : Thing Y] {q jb mw N lo g : Nat} {L : List Nat} {G0 V : Nat → Pg} {k : Nat} {H : HS} {fl : List Nat} {w w' : World} {l l' : List Value} {t : TypeId}
omit hYT in
theorem JH.cell (h : JH q jb mw N G0 V k H fl (ze5 Y g l t) lo L w) : row w g l t ∧ lo ≤ g ∧ g ∉ L := let ⟨_, _, h2⟩ := h.ex; zfy h2
theorem JH.setc (h : JH q jb mw N G0 V k H fl (ze5 Y g l t) lo L w) (hr : row w' g l' t) (ho : Only g w w') : JH q jb mw N G0 V k H fl (ze5 Y g l' t) lo L w' := let ⟨G, h1, h2⟩ := h.ex; ⟨h.ok, G, h1, zlj h2 hr ho⟩
def pgH (H : HS) : Nat → Pg := fun n => if n = 0 then zaD (zcB H.F) else if n < H.F.fresh then zaD (H.S n) else zbl
omit hYT in
theorem HOk.hr {N : Nat} {H : HS} {fl : List Nat} (h : HOk N H fl) : HR N (pgH H) H fl := by
 refine ⟨h, if_pos rfl, fun n h1 h2 => ?_, fun n h1 h2 => ?_⟩
 ·unfold pgH; rw [if_neg (by omega), if_pos h2]
 ·have := h.f1
  unfold pgH; rw [if_neg (by omega), if_neg (by omega)]
omit hYT in
theorem HR.eq {N : Nat} {G : Nat → Pg} {H : HS} {fl : List Nat} (h : HR N G H fl) {n : Nat} (hn : n < N) : G n = pgH H n := by
 unfold pgH
 split
 ·rename_i e; rw [e]; exact h.g0
 ·split
  ·exact h.s n (by omega) (by assumption)
  ·exact h.z n (by omega) hn
omit hYT in
theorem HR.two {N : Nat} {G : Nat → Pg} {H : HS} {fl : List Nat} (h : HR N G H fl) (h2 : Two (GZ q N G V k) Y lo L w) : Two (GZ q N (pgH H) V k) Y lo L w := zgY h2 fun _ hB => GZ.congr hB fun _ hn => h.eq hn
set_option maxRecDepth 20000 in
theorem run34 (hb : Nat) (h : Two (GZ q N (pgH H) V k) Y lo L w) (hH : HOk N H fl) (hr : row w hb [.pointer (some ⟨q, 0, none⟩)] 50) (kf : Nat) (caps : List Value) (hcan : zb9 Tryz.prog kf = true)
  (A : HS → List Nat → (World → List Nat → Prop) → Prop) (E : Int → (World → List Nat → Prop) → Prop) (hAT : ∀ H' fl' Y', A H' fl' Y' → Thing Y') (hET : ∀ e Y', E e Y' → Thing Y') (hAF : ∀ H' fl' Y', A H' fl' Y' → H.F.fresh ≤ H'.F.fresh)
  (hdo : ∀ jb mw L' w', (∀ b ∈ L, b ∈ L') → LoL lo L w w' → JH q jb mw N (pgH H) V k H fl Y lo L' w' → Calls Tryz.prog kf (.pointer (some ⟨jb, 0, none⟩) :: caps).toArray w'
   (zih (fun _ w2 => ∃ H' fl' Y', A H' fl' Y' ∧ JH q jb mw N (pgH H) V k H' fl' Y' lo L' w2 ∧ LoL lo L' w' w2) (fun c w2 => ∃ e Y', E e Y' ∧ c = pe (zdN e) ∧ JF q jb mw N (pgH H) V k Y' lo L' w2 ∧ LoL lo L' w' w2))) :
  Calls Tryz.prog 34 [.pointer (some ⟨hb, 0, none⟩), .func (.func kf) #[] caps.toArray].toArray w (Ret fun v w' => (∃ H' fl' Y', A H' fl' Y' ∧ HOk N H' fl' ∧ v = .int .i64 0 ∧ Two (GZ q N (pgH H') V k) Y' lo L w' ∧ LoL lo L w w') ∨
   (∃ e Y', E e Y' ∧ v = .int .i64 e ∧ Two (GZ q N (pgH H) V k) Y' lo L w' ∧ LoL lo L w w')) := by
 have hde := gDead h
 have hrun := (run64 h hH.hr kf caps hcan A E hAT hET hAF hdo).to fun v w' hh => (show (∃ H' fl' Y', A H' fl' Y' ∧ HOk N H' fl' ∧ v = .int .i64 0 ∧ Two (GZ q N (pgH H') V k) Y' lo L w' ∧ LoL lo L w w') ∨
   (∃ e Y', E e Y' ∧ v = .int .i64 e ∧ Two (GZ q N (pgH H) V k) Y' lo L w' ∧ LoL lo L w w') from hh.imp (fun ⟨H', fl', Y', G', h1, h2, h3, h4, h5⟩ => ⟨H', fl', Y', h1, h3.ok, h2, h3.two h4, h5⟩) id)
 refine zas (fn := Tryz.f34) (rs := [.tmp 4]) (n := 25) Tryz.func34 rfl rfl Tryz.ntmps34 (by kernel_rfl) rfl ?_
 refine zaf (zaa (zad (zac) (zae (zah (zaf (zaf (zaa (zad (zab) ?_))))))))
 refine zad (zch (by kernel_rfl) rfl rfl) ?_
 refine zad (zab) ?_
 refine WR_is 7 (.bool false) (rfl) ?_
 refine zan rfl (zad (zab) (zan rfl (zad (zak rfl) (zan rfl (zad (zav 0) (zan rfl ?_))))))
 refine zad (zax hr) ?_
 refine zan rfl ?_
 refine zad (zch (by kernel_rfl) rfl rfl) ?_
 refine zad (zaw rfl) (zae (zah ?_))
 refine zjC rfl (rfl) ?_
 refine zau (zah (zaf (zaf (zaa (zad (zab) (zad (zak rfl) (zad (zav 0) ?_)))))))
 refine zad (zax hr) ?_
 refine zao rfl (zaj (by kernel_rfl) rfl) (hde) ?_
 rintro _ _ ⟨rfl, rfl⟩
 refine zae (zah ?_)
 refine zjC rfl (rfl) ?_
 refine zau (zah (zaf (zaa (zad (zab) (zad (zak rfl) (zad (zav 0) ?_))))))
 refine zad (zax hr) ?_
 refine zad (zab) ?_
 refine zao rfl (zaj (by kernel_rfl) rfl) (hrun) ?_
 rintro _ w24 hb24
 refine zad (zac) (zae (zah (zaz ?_)))
 refine zam [_] ⟨rfl, trivial⟩ ?_
 exact hb24
end
section
variable {Y : World → List Nat → Prop} [hYT : Thing Y] {q jb mw N lo : Nat} {L : List Nat} {G G0 V : Nat → Pg} {k : Nat} {H : HS} {fl : List Nat} {w : World}
def zkw (N : Nat) (H : HS) : Nat := N - H.F.fresh + H.F.many
set_option maxRecDepth 20000 in
theorem room35 (g : Nat) (v0 : Value) (h : JH q jb mw N G0 V k H fl (ze5 Y g [v0] 3) lo L w) : Calls Tryz.prog 35 [.pointer (some ⟨jb, 0, none⟩), .pointer (some ⟨g, 0, none⟩)].toArray w
  (Ret fun _ w' => JH q jb mw N G0 V k H fl (ze5 Y g [.int .i64 (zkw N H : Int)] 3) lo L w' ∧ LoL lo L w w') := by
 have hLL := LoL.refl lo L w
 have hN := h.n48.1
 have hfN := h.ok.fN
 have hmN := h.ok.many
 have hc := h.cell
 obtain ⟨hx1, hlo1, hnL1⟩ := hc
 obtain ⟨hH, G, hG, hT⟩ := h
 obtain ⟨c, hA⟩ := zcO hT
 have hj := hA.znE
 have hjg : jb ≠ g := fun e => by
  have h2 := zfy hA.p
  exact h2.2.2 (by simp [e])
 have hpg := fun L' w' (h' : Two (GZ q N G V k) (ze5 Y g [v0] 3) lo L' w') => zjy h'
 have hp := hA.p
 have hJ : JH q jb mw N G0 V k H fl (ze5 Y g [v0] 3) lo L w := ⟨hH, G, hG, hT⟩
 unfold zkw
 refine zas (fn := Tryz.f35) (rs := []) (n := 20) Tryz.func35 rfl rfl Tryz.ntmps35 (by kernel_rfl) rfl ?_
 refine za5 [g] (by kernel_rfl) ?_
 intro w901 hb901 hS901
 replace hLL := hLL.new hb901
 replace hx1 := hx1.new hb901
 replace hj := hj.new hb901
 replace hp := hp.new hb901
 replace hJ := hJ.new hb901
 have hj_d901 := hj
 refine zat 0 (zab) ?_
 refine zat 1 (zak rfl) ?_
 refine zat 2 (zav 5) ?_
 refine zbp 3 (fun w' hS' => zax (hj_d901.kq hS')) ?_
 refine zat 5 (zab) ?_
 refine zat 6 (zak rfl) ?_
 refine zat 7 (zav 0) ?_
 refine zat 8 (zav 0) ?_
 refine zbp 9 (fun w' hS' => zax (hj_d901.kq hS')) ?_
 refine zat 11 (zab) ?_
 refine zat 12 (zak rfl) ?_
 refine zat 13 (zav 0) ?_
 refine zat 14 (zav 2) ?_
 refine zbp 15 (fun w' hS' => zax (hj_d901.kq hS')) ?_
 refine zaH 4 (by kernel_rfl) ?_
 refine zbb rfl rfl (zaj (by kernel_rfl) rfl) (hpg _ w901 hp) ?_
 rintro _ w7 ⟨rfl, hb7⟩
 have hS902 := hS901.add0 hb7
 refine ⟨hS902, ?_⟩
 replace hLL := hLL.new hb7
 replace hx1 := hx1.new hb7
 replace hJ := hJ.new hb7
 refine zat 10 (zc0 rfl rfl (show IntKind.i64.wrap ((N : Int) - (H.F.fresh : Int)) = ((N - H.F.fresh : Nat) : Int) by rw [w64 (by omega)]; omega)) ?_
 refine zat 16 (zaN rfl rfl (show IntKind.i64.wrap (((N - H.F.fresh : Nat) : Int) + (H.F.many : Int)) = ((N - H.F.fresh + H.F.many : Nat) : Int) by rw [w64 (by omega)]; omega)) ?_
 refine zaH 17 (by kernel_rfl) ?_
 refine zbO rfl rfl (zbg hx1 (fun w904 hx1 ho904 => ?_))
 have hS903 := hS902.aq ho904
 refine ⟨hS903, ?_⟩
 replace hLL := hLL.oq ho904
 have hJ2 := hJ.setc hx1 ho904
 refine zaL (by kernel_rfl) ?_
 refine zbr [] trivial ?_
 exact ⟨hJ2, hLL⟩
theorem roomM (hb : Nat) (h : Two (GZ q N (pgH H) V k) Y lo L w) (hH : HOk N H fl) (hr : row w hb [.pointer (some ⟨q, 0, none⟩)] 50) (hbL : hb < lo ∨ hb ∈ L) :
  Calls Tryz.prog 9 [.pointer (some ⟨hb, 0, none⟩)].toArray w (Ret fun v w' => v = .int .i64 (zkw N H : Int) ∧ Two (GZ q N (pgH H) V k) Y lo L w' ∧ LoL lo L w w') := by
 have hLL := LoL.refl lo L w
 have hrun : ∀ g W, row W hb [.pointer (some ⟨q, 0, none⟩)] 50 → Two (GZ q N (pgH H) V k) (ze5 Y g [.int .i64 0] 3) lo L W → Calls Tryz.prog 34 [.pointer (some ⟨hb, 0, none⟩), .func (.func 35) #[] [.pointer (some ⟨g, 0, none⟩)].toArray].toArray W
   (Ret fun v w' => Two (GZ q N (pgH H) V k) (ze5 Y g [.int .i64 (zkw N H : Int)] 3) lo L w' ∧ LoL lo L W w') := fun g W hr h => by
  refine (run34 hb h hH hr 35 [.pointer (some ⟨g, 0, none⟩)] (by kernel_rfl) (fun H' fl' Y' => H' = H ∧ Y' = ze5 Y g [.int .i64 (zkw N H : Int)] 3) (fun e Y' => False)
   (fun H' fl' Y' ⟨_, e⟩ => by subst e; infer_instance) (fun e Y' h => h.elim) (fun H' fl' Y' ⟨e, _⟩ => by rw [e]; exact Nat.le_refl _) fun jb mw L' w' hs hl hJ => ?_).to fun v w' h => ?_
  ·exact (room35 g _ hJ).toP fun v w2 ⟨h3, h4⟩ => ⟨H, fl, _, ⟨rfl, rfl⟩, h3, h4⟩
  ·rcases h with ⟨H', fl', Y', ⟨rfl, rfl⟩, h4, h3, h5, h6⟩ | ⟨e, Y', h, _⟩
   ·exact ⟨h5, h6⟩
   ·exact h.elim
 refine zas (fn := Tryz.f9) (rs := [.cell 2 3]) (n := 7) Tryz.func9 rfl rfl Tryz.ntmps9 (by kernel_rfl) rfl ?_
 refine zaf (zaa ?_)
 refine zay rfl (zar ([Value.int .i64 0]) (by kernel_rfl) (fun g2 w2 hg2 hr2 hb2 => ?_))
 replace hLL := hLL.new hb2
 replace hr := hr.new hb2
 refine zae (zah (zaf (zaa (zad (zab) (zad (zaW) ?_)))))
 have h2 := zkv (l := [.int .i64 0]) (t := 3) h hb2 hr2 hg2
 have hls := h.lo
 have hlt := h.lt
 refine zao rfl (zaj (by kernel_rfl) rfl) (hrun g2 w2 hr h2) ?_
 rintro _ w5 ⟨h3, hb5⟩
 replace hLL := hLL.ll hb5 (fun b hb => hb)
 refine zae (zah (zaf ?_))
 have hc := zfy h3
 obtain ⟨hx1, hlo1, hnL1⟩ := hc
 refine zaa ?_
 refine zad (zax hx1) ?_
 refine zaG rfl (zbg hx1 (fun w901 hx1 ho901 => ?_))
 replace hLL := hLL.oq ho901
 have h4 := zlj h3 hx1 ho901
 refine zae (zah (zaz ?_))
 refine zam [_] ⟨⟨_, rfl, Ld.zdY hx1 (by kernel_rfl) rfl⟩, trivial⟩ ?_
 exact ⟨rfl, (zge h4).weak fun b hb => by simp [hb], hLL⟩
end
section
variable {Y : World → List Nat → Prop} [hYT : Thing Y] {q jb mw N lo : Nat} {L : List Nat} {G G0 V : Nat → Pg} {k : Nat} {H : HS} {fl rl : List Nat} {R : Nat → Nat → Prop} {P : Nat → Nat → List Nat} {B : Nat → Nat → List UInt8} {w : World}
def backE (H : HS) (n : Int) : Int := if n < 1 ∨ (H.F.fresh : Int) ≤ n then 2 else if (H.S n.toNat).kind ≠ 3 then 6 else 0
def rootE (N : Nat) (n : Int) : Int := if n < 0 ∨ (N : Int) ≤ n then 2 else 0
def rootS (H : HS) (n : Nat) : HS := ⟨⟨H.F.fresh, H.F.free, H.F.many, H.F.records, n⟩, H.S⟩
omit hYT in
theorem HOk.root (h : HOk N H fl) {n : Nat} (hn : n < N) : HOk N (rootS H n) fl := ⟨h.f1, h.fN, h.gd, h.ch, h.fk, h.nd, h.fm, h.rc, hn⟩
def NoRec (H : HS) (p s : Int) : Prop := p < 1 ∨ (H.F.fresh : Int) ≤ p ∨ zjD (H.S p.toNat).slots s = false ∨ (H.S p.toNat).kind ≠ 1
end
def ziq (N : Nat) (b : List UInt8) (H : HS) (rl : List Nat) : Option (Nat × Nat × HS) := match cellS N b H with
 | none => none
 | some (c, H1) => zmb N c H1 rl
theorem layS_ok {N : Nat} (hN : N ≤ 2048) {H H' : HS} {fl rl l : List Nat} {R : Nat → Nat → Prop} {P : Nat → Nat → List Nat} {B : Nat → Nat → List UInt8} {b c : List UInt8} {m s : Nat} (h : HI N H fl rl R P B l) (hF : Full H rl R) (hc : CellIs H c b l) (he : zmb N c H rl = some (m, s, H')) :
  ∃ fl' rl', HI N H' fl' rl' (zl3 R m s) (up2 P m s l) (up2 B m s b) [] ∧ Full H' rl' (zl3 R m s) ∧ ¬ R m s ∧ H.F.fresh ≤ H'.F.fresh ∧ H'.F.root = H.F.root ∧ ∀ n, n < H.F.fresh → (H.S n).kind = 3 → H'.S n = H.S n := by
 have hcl := hc.len
 unfold zmb at he
 cases hf : rl.find? (fun m => decide (zhU (H.S m) c = 0)) with
 | some m' =>
  rw [hf] at he
  cases he
  have hm := List.mem_of_find?_eq_some hf
  have hE : zhU (H.S m) c = 0 := by simpa using List.find?_some hf
  have hma := h.rk.at_ m hm
  have hgd := zle (h.ok.gd m hma.1 hma.2.1) hE
  have hfl := zhT (H.S m).slots
  have hat : ∀ j, (zcR (H.S m) (zbK (H.S m).slots) c).slots[j]? = if j = zbK (H.S m).slots then some (some c) else (H.S m).slots[j]? := fun j => setS_at hfl
  have hnr : ¬ R m (zbK (H.S m).slots) := fun hr => by
   obtain ⟨_, c', h2, _⟩ := h.cell m _ hr
   exact zkr h2
  have h2 := h.zio hm hgd hma.2.2 rfl fun s c' hr hs => by
   rw [hat s, if_neg fun e => zkr (e ▸ hs)]
   exact hs
  have h3 := h2.addC hm (s := zbK (H.S m).slots) (c := c) (b := b) (by
   show (zba H.S m _ m).slots[_]? = _
   rw [zaR, hat, if_pos rfl]) (hc.frame (Nat.le_refl _) fun n hn => zbh fun e => by have := (h.pk n hn).2.2.1; rw [e] at this; omega) hnr
  refine ⟨_, _, h3, fun a ha => ?_, hnr, Nat.le_refl _, rfl, fun n _ hk => zbh fun e => by rw [e] at hk; omega⟩
  show (zba H.S m _ a).slots ≠ [] ∧ ∀ s' c', (zba H.S m _ a).slots[s']? = some (some c') → _
  by_cases e : a = m
  ·rw [e, zaR]
   refine ⟨fun hn => ?_, fun s' c' hs' => ?_⟩
   ·have := hat (zbK (H.S m).slots)
    rw [hn, if_pos rfl] at this
    simp at this
   ·rw [hat] at hs'
    by_cases e2 : s' = zbK (H.S m).slots
    ·exact .inr ⟨rfl, e2⟩
    ·rw [if_neg e2] at hs'
     exact .inl ((hF m hm).2 s' c' hs')
  ·rw [zbh e]
   exact ⟨(hF a ha).1, fun s' c' hs' => .inl ((hF a ha).2 s' c' hs')⟩
 | none =>
  rw [hf] at he
  cases hg : ze3 N H 1 with
  | none => rw [hg] at he; cases he
  | some p =>
   obtain ⟨n, H1⟩ := p
   rw [hg] at he
   cases he
   obtain ⟨fl1, hok⟩ := zgc h.ok (by omega) hg
   have hrc : H1.F.records < 2147483648 := by have := hok.ok.rc; have := hok.ok.fN; omega
   have h2 := h.gave hok (U := ⟨1, H1.F.records, [some c]⟩) (zc8 (by omega) hrc hcl.2) (m :: rl) (.inr ⟨rfl, rfl, hok.rec_⟩)
   rw [if_neg (show ¬ (1 : Nat) = 3 by decide)] at h2
   have hnl : m ∉ rl := fun hm => by
    rcases hok.was with e | e
    ·exact h.rk.ni h.ok hm e
    ·have := (h.rk.at_ m hm).2.1; omega
   have hnr : ¬ R m 0 := fun hr => hnl (h.cell m 0 hr).1
   have hS : ∀ i, i ≠ m → zba H1.S m ⟨1, H1.F.records, [some c]⟩ i = H.S i := fun i hi => by rw [zbh hi]; exact hok.old i hi
   have hnlp : m ∉ l := fun hm => by
    have hp := h.pk m hm
    rcases hok.was with e | e
    ·have := (h.ok.fk m e).2.2; omega
    ·omega
   have h3 := h2.addC (m := m) (s := 0) (c := c) (b := b) (by simp) (by
    show (zba H1.S m _ m).slots[0]? = _
    rw [zaR]; rfl) (hc.frame hok.grow fun i hi => hS i fun e => hnlp (e ▸ hi)) hnr
   refine ⟨_, _, h3, fun a ha => ?_, hnr, hok.grow, hok.root, fun i hi hk => hS i fun e => ?_⟩
   ·show (zba H1.S m _ a).slots ≠ [] ∧ ∀ s' c', (zba H1.S m _ a).slots[s']? = some (some c') → _
    by_cases e : a = m
    ·rw [e, zaR]
     refine ⟨by simp, fun s' c' hs' => .inr ⟨rfl, ?_⟩⟩
     cases s' with
     | zero => rfl
     | succ s' => simp at hs'
    ·have ha2 := (List.mem_cons.1 ha).resolve_left e
     rw [hS a e]
     exact ⟨(hF a ha2).1, fun s' c' hs' => .inl ((hF a ha2).2 s' c' hs')⟩
   ·rcases hok.was with e2 | e2
    ·have := (h.ok.fk m e2).2.2
     rw [e] at hk; omega
    ·omega
theorem HI.ziq {N : Nat} (hN : N ≤ 2048) {H H' : HS} {fl rl : List Nat} {R : Nat → Nat → Prop} {P : Nat → Nat → List Nat} {B : Nat → Nat → List UInt8} {b : List UInt8} {m s : Nat} (h : HI N H fl rl R P B []) (hF : Full H rl R) (hb : b.length ≤ 20000) (he : ziq N b H rl = some (m, s, H')) :
  ∃ fl' rl' l, HI N H' fl' rl' (zl3 R m s) (up2 P m s l) (up2 B m s b) [] ∧ Full H' rl' (zl3 R m s) ∧ ¬ R m s ∧ H.F.fresh ≤ H'.F.fresh ∧ H'.F.root = H.F.root ∧ ∀ n, n < H.F.fresh → (H.S n).kind = 3 → H'.S n = H.S n := by
 unfold Go.Proofs.YtdbogkndglbffaaGreat.ziq at he
 split at he
 ·cases he
 ·rename_i c H1 hc
  obtain ⟨l, fl1, h1, h2, h3, h4, h5, h6⟩ := h.cellO hN hb hc
  have hF1 : Full H1 rl R := fun a ha => by rw [h3 a ha]; exact hF a ha
  obtain ⟨fl', rl', r1, r2, r3, r4, r5, r6⟩ := layS_ok hN h1 hF1 h2 he
  exact ⟨fl', rl', l, r1, r2, r3, Nat.le_trans h4 r4, r5.trans h5, fun n hn hk => (r6 n (Nat.lt_of_lt_of_le hn h4) (by rw [h6 n hn hk]; exact hk)).trans (h6 n hn hk)⟩
theorem zaB.base {w : World} {base lo e sz m : Nat} {v : Value} {xs : List Value} (h : zaB w base e sz v m xs) (hb : ∀ b, v.ownBlock = some b → lo ≤ b) : zaB w lo e sz v m xs := by
 refine ⟨h.1, ?_⟩
 rcases h.2 with hn | ⟨g, off, cap, cur, rfl, hb', rest⟩
 ·exact .inl hn
 ·exact .inr ⟨g, off, cap, cur, rfl, hb _ rfl, rest⟩
def AddO (Y : World → List Nat → Prop) (e sz : Nat) (v : Value) (m : Nat) (xs : List Value) : World → List Nat → Prop := fun w C => ∃ C1, C = v.ownBlock.toList ++ C1 ∧ Y w C1 ∧ zaB w 0 e sz v m xs ∧ ∀ b ∈ v.ownBlock.toList, b ∉ C1
instance (Y : World → List Nat → Prop) [hY : Thing Y] (e sz : Nat) (v : Value) (m : Nat) (xs : List Value) : Thing (AddO Y e sz v m xs) :=
 ⟨fun {w w' B M} ⟨C1, he, h1, h2, h3⟩ k hM => by
  subst he
  exact ⟨C1, rfl, hY.kpd h1 k fun b hb => hM b (by simp [hb]), h2.kpd k fun g hm e => hM g (by simp [e]) hm, h3⟩, fun {w B} ⟨C1, he, h1, h2, h3⟩ b hb => by
  subst he
  rcases List.mem_append.1 hb with hb | hb
  ·exact (h2.lt b (Option.mem_toList.1 hb)).2
  ·exact hY.lt h1 b hb⟩
section
variable {X Y : World → List Nat → Prop} [hX : Thing X] [hYT : Thing Y] {lo g base e sz m : Nat} {L : List Nat} {w w' : World} {v : Value} {xs : List Value}
omit hX hYT in
theorem two_inO (h : Two X Y lo (v.ownBlock.toList ++ L) w) (hv : zaB w base e sz v m xs) (hl : ∀ b ∈ v.ownBlock.toList, lo ≤ b ∧ b ∉ L) : Two X (AddO Y e sz v m xs) lo L w := by
 obtain ⟨⟨B, C, h1, h2, h3, h4⟩, h5, h6⟩ := h
 refine ⟨⟨B, v.ownBlock.toList ++ C, h1, ⟨C, rfl, h2, zaB.mono hv (Nat.zero_le _), fun b hb hm => (h4 b hm).2 (by simp only [List.mem_append]; exact .inl hb)⟩, fun b hb => ⟨(h3 b hb).1, fun hm => ?_, fun hm => (h3 b hb).2.2 (by simp only [List.mem_append]; exact .inr hm)⟩, fun b hb => ?_⟩, h5, fun b hb => h6 b (by simp only [List.mem_append]; exact .inr hb)⟩
 ·rcases List.mem_append.1 hm with hm | hm
  ·exact (h3 b hb).2.2 (by simp only [List.mem_append]; exact .inl hm)
  ·exact (h3 b hb).2.1 hm
 ·rcases List.mem_append.1 hb with hb | hb
  ·exact hl b hb
  ·exact ⟨(h4 b hb).1, fun hm => (h4 b hb).2 (by simp only [List.mem_append]; exact .inr hm)⟩
omit hX hYT in
theorem zoZ (h : Two X (AddO Y e sz v m xs) lo L w) : Two X Y lo (v.ownBlock.toList ++ L) w ∧ zaB w lo e sz v m xs := by
 obtain ⟨⟨B, C, h1, ⟨C1, rfl, h2, h3, h4⟩, h5, h6⟩, h7, h8⟩ := h
 refine ⟨⟨⟨B, C1, h1, h2, fun b hb => ⟨(h5 b hb).1, fun hm => (h5 b hb).2.1 (by simp only [List.mem_append]; exact .inr hm), fun hm => ?_⟩, fun b hb => ⟨(h6 b (by simp only [List.mem_append]; exact .inr hb)).1, fun hm => ?_⟩⟩, h7, fun b hb => ?_⟩, ?_⟩
 ·rcases List.mem_append.1 hm with hm | hm
  ·exact (h5 b hb).2.1 (by simp only [List.mem_append]; exact .inl hm)
  ·exact (h5 b hb).2.2 hm
 ·rcases List.mem_append.1 hm with hm | hm
  ·exact h4 b hm hb
  ·exact (h6 b (by simp only [List.mem_append]; exact .inr hb)).2 hm
 ·rcases List.mem_append.1 hb with hb | hb
  ·exact (h3.lt b (Option.mem_toList.1 hb)).2
  ·exact h8 b hb
 ·exact zaB.base h3 fun b hb => (h6 b (by simp only [List.mem_append]; exact .inl (Option.mem_toList.2 hb))).1
end
section
variable {Y : World → List Nat → Prop} [hYT : Thing Y] {q jb mw N lo : Nat} {L : List Nat} {G G0 V : Nat → Pg} {k : Nat} {H : HS} {fl rl pd : List Nat} {R : Nat → Nat → Prop} {P : Nat → Nat → List Nat} {B : Nat → Nat → List UInt8} {w : World}
theorem cellH (h : JH q jb mw N G0 V k H fl Y lo L w) (p : Option Addr) (cap : Nat) (b : List UInt8) (hs : zaT w p b.length 1 (bv b)) (hcap : b.length ≤ cap) (hl2 : b.length ≤ 20000) (hpL : ∀ c o, p = some ⟨c, o, none⟩ → c < lo ∨ c ∈ L) :
  Calls Tryz.prog 40 [.pointer (some ⟨jb, 0, none⟩), .slice p b.length cap].toArray w (zih (fun v w' => ∃ c H' fl', cellS N b H = some (c, H') ∧ JH q jb mw N G0 V k H' fl' Y lo (v.ownBlock.toList ++ L) w' ∧ zaB w' w.heap.size 5 1 v c.length (bv c) ∧ LoL lo L w w')
   (fun c w' => cellS N b H = none ∧ c = pe (zdN 8) ∧ JF q jb mw N G0 V k Y lo L w' ∧ LoL lo L w w')) := by
 by_cases hb : b.length < 400
 ·have hc : cellS N b H = some (0 :: b, H) := by unfold cellS; rw [if_pos hb]
  refine (cellSh _ p cap b w hs hb).toP fun v w' ⟨h1, h2⟩ => ⟨0 :: b, H, fl, hc, h.addL h2 fun x hx => h1.lt x (Option.mem_toList.1 hx), ?_, LoL.of_below h2⟩
  rw [List.length_cons, Nat.add_comm]; exact h1
 ·refine (cellLg h p cap b hs hcap (by omega) hl2 hpL).zoK (fun v w' ⟨n, H', fl', h1, h2, h3, h4⟩ => ⟨1 :: (beB 4 b.length ++ beB 4 n), H', fl', ?_, h2, ?_, h4⟩) fun c w' ⟨h1, h2, h3, h4⟩ => ⟨?_, h2, h3, h4⟩
  ·unfold cellS; rw [if_neg hb, h1]
  ·rw [List.length_cons, List.length_append, zaQ, zaQ]; exact h3
  ·unfold cellS; rw [if_neg hb, h1]
set_option maxRecDepth 20000 in
theorem lay37 (gb g : Nat) (v0 v1 : Value) (p : Option Addr) (cap : Nat) (b : List UInt8) (h : JH q jb mw N G0 V k H fl (ze5 Y g [v0, v1] 38) lo L w) {fl2 : List Nat} (hI : HI N H fl2 rl R P B []) (hx1 : row w gb [.slice p b.length cap] 33) (hgL : gb ∈ L) (hs : zaT w p b.length 1 (bv b)) (hcap : b.length ≤ cap) (hl2 : b.length ≤ 20000) (hpL : ∀ c o, p = some ⟨c, o, none⟩ → c < lo ∨ c ∈ L) :
  Calls Tryz.prog 37 [.pointer (some ⟨jb, 0, none⟩), .pointer (some ⟨gb, 0, none⟩), .pointer (some ⟨g, 0, none⟩)].toArray w
  (zih (fun _ w' => ∃ m s H' fl', ziq N b H rl = some (m, s, H') ∧ JH q jb mw N G0 V k H' fl' (ze5 Y g [.int .i64 (m : Int), .int .i64 (s : Int)] 38) lo L w' ∧ LoL lo L w w') (fun c w' => ziq N b H rl = none ∧ c = pe (zdN 8) ∧ JF q jb mw N G0 V k (ze5 Y g [v0, v1] 38) lo L w' ∧ LoL lo L w w')) := by
 have hLL := LoL.refl lo L w
 have hcell := cellH h p cap b hs hcap hl2 hpL
 have hlg := h.lo'.1
 have hsh := fun w' => short0 p b.length cap hl2 w'
 refine zdx (fn := Tryz.f37) (rs := []) (n := 11) Tryz.func37 rfl rfl Tryz.ntmps37 (by kernel_rfl) rfl ?_
 refine zaf (zaa ?_)
 refine zad (zax hx1) ?_
 refine zao rfl (zaj (by kernel_rfl) rfl) (hsh w) ?_
 rintro _ _ ⟨rfl, rfl⟩
 refine zae (zah (zaa (zad (zab) (zad (zab) ?_))))
 refine zad (zax hx1) ?_
 refine zen rfl (zaj (by kernel_rfl) rfl) (hcell) ((fun c w' ⟨h1, h2, h3, h4⟩ => zcU ⟨by unfold ziq; rw [h1], h2, h3, hLL.lq h4⟩)) ?_
 rintro _ w9 ⟨c9, H9, fl9, hc9, hJ9, hv9, hb9⟩
 have hx1 := hx1.kl hb9 (.inr hgL)
 replace hLL := hLL.lq hb9
 have hO := hI.cellO h.n48.1 hl2 hc9
 obtain ⟨l9, fl8, hI9, hci9, -⟩ := hO
 have hcn := hci9.len
 have hobt := hv9.form' (by omega)
 obtain ⟨gv, ov, cv, rfl, hv91, hv92, hv93⟩ := hobt
 have hlay := layH hJ9 hI9.rk (some ⟨gv, ov, none⟩) cv c9 hv9.sl hcn.1 hcn.2 (fun c o e => by cases e; exact .inr (by simp [Value.ownBlock]))
 refine zen rfl (zaj (by kernel_rfl) rfl) (hlay) ((fun c w' ⟨h1, h2, ⟨G3, F3, h3⟩, h4⟩ => zcU ⟨by unfold ziq; rw [hc9]; exact h1, h2, ⟨G3, F3, h3.weak fun b hb => by simp [hb]⟩, hLL.ll h4 fun b hb => by simp [hb]⟩)) ?_
 rintro _ w10 ⟨m, s, H10, fl10, hl10, rfl, hJ10, hb10⟩
 replace hLL := hLL.ll hb10 (fun b hb => by simp [hb])
 have hJ11 := hJ10.weak (L2 := L) (fun b hb => by simp [hb])
 have hc := hJ11.cell
 obtain ⟨hx2, hlo1, hnL1⟩ := hc
 refine zaG rfl (zaO 2 ([.int .i64 (m : Int), .int .i64 (s : Int)]) hx2 (fun w901 hx2 ho901 => ?_))
 replace hLL := hLL.oq ho901
 have hJ12 := hJ11.setc hx2 ho901
 refine zae ?_
 refine zkm [] trivial ?_
 exact ⟨m, s, H10, fl10, by unfold ziq; rw [hc9]; exact hl10, hJ12, hLL⟩
set_option maxRecDepth 20000 in
omit hYT in
theorem lay37L (gb g : Nat) (v : List Value) (p : Option Addr) (cap n : Nat) (h : JH q jb mw N G0 V k H fl (ze5 Y g v 38) lo L w) (hx1 : row w gb [.slice p n cap] 33) (hl2 : 20000 < n) :
  Calls Tryz.prog 37 [.pointer (some ⟨jb, 0, none⟩), .pointer (some ⟨gb, 0, none⟩), .pointer (some ⟨g, 0, none⟩)].toArray w
  (zih (fun _ _ => False) (fun c w' => c = pe (zdN 3) ∧ JF q jb mw N G0 V k (ze5 Y g v 38) lo L w' ∧ LoL lo L w w')) := by
 have hsh := fun w' => shortP p n cap hl2 w'
 refine zdx (fn := Tryz.f37) (rs := []) (n := 11) Tryz.func37 rfl rfl Tryz.ntmps37 (by kernel_rfl) rfl ?_
 refine zaf (zaa ?_)
 refine zad (zax hx1) ?_
 refine zen rfl (zaj (by kernel_rfl) rfl) (hsh w) ((fun c w' ⟨h1, h2⟩ => zcU ⟨h1, by rw [← h2]; exact h.fail, by rw [← h2]; exact LoL.refl _ _ _⟩)) ?_
 rintro _ _ hF
 exact hF.elim
set_option maxRecDepth 20000 in
theorem layM (hb : Nat) (p : Option Addr) (cap : Nat) (b : List UInt8) (h : Two (GZ q N (pgH H) V k) Y lo L w) (hI : HI N H fl rl R P B []) (hF : Full H rl R) (hr : row w hb [.pointer (some ⟨q, 0, none⟩)] 50) (hbL : hb < lo ∨ hb ∈ L) (hs : zaT w p b.length 1 (bv b)) (hcap : b.length ≤ cap) (hpL : ∀ c o, p = some ⟨c, o, none⟩ → c < lo ∨ c ∈ L) :
   Calls Tryz.prog 11 [.pointer (some ⟨hb, 0, none⟩), .slice p b.length cap].toArray w (Ret fun v w' => ((20000 < b.length ∧ v = .tuple #[.agg #[.int .i64 0, .int .i64 0], .int .i64 3] ∧ Two (GZ q N (pgH H) V k) Y lo L w') ∨ (b.length ≤ 20000 ∧ ziq N b H rl = none ∧ v = .tuple #[.agg #[.int .i64 0, .int .i64 0], .int .i64 8] ∧ Two (GZ q N (pgH H) V k) Y lo L w') ∨
     (b.length ≤ 20000 ∧ ∃ m s H', ziq N b H rl = some (m, s, H') ∧ v = .tuple #[.agg #[.int .i64 (m : Int), .int .i64 (s : Int)], .int .i64 0] ∧ Two (GZ q N (pgH H') V k) Y lo L w')) ∧ LoL lo L w w') := by
 have hN := (zii h).1
 have hL34 : ∀ a c : Nat, ∀ x ∈ L, x ∈ a :: c :: L := fun a c x hx => by simp [hx]
 have hLL := LoL.refl lo L w
 have hrun : ∀ gb g W L2, gb ∈ L2 → (∀ x ∈ L, x ∈ L2) → row W hb [.pointer (some ⟨q, 0, none⟩)] 50 → row W gb [.slice p b.length cap] 33 → zaT W p b.length 1 (bv b) → Two (GZ q N (pgH H) V k) (ze5 Y g [.int .i64 0, .int .i64 0] 38) lo L2 W → Calls Tryz.prog 34 [.pointer (some ⟨hb, 0, none⟩), .func (.func 37) #[] [.pointer (some ⟨gb, 0, none⟩), .pointer (some ⟨g, 0, none⟩)].toArray].toArray W
     (Ret fun v w' => ∃ (e : Int) (m s : Nat) (H' : HS), v = .int .i64 e ∧ Two (GZ q N (pgH H') V k) (ze5 Y g [.int .i64 (m : Int), .int .i64 (s : Int)] 38) lo L2 w' ∧ LoL lo L2 W w' ∧
      ((e = 3 ∧ 20000 < b.length ∧ H' = H) ∨ (e = 8 ∧ b.length ≤ 20000 ∧ ziq N b H rl = none ∧ H' = H) ∨ (e = 0 ∧ b.length ≤ 20000 ∧ ziq N b H rl = some (m, s, H')))) := fun gb g W L2 hgb hLs hr hrb hs h => by
   refine (run34 hb h hI.ok hr 37 [.pointer (some ⟨gb, 0, none⟩), .pointer (some ⟨g, 0, none⟩)] (by kernel_rfl) (fun H' fl' Y' => ∃ m s, b.length ≤ 20000 ∧ ziq N b H rl = some (m, s, H') ∧ Y' = ze5 Y g [.int .i64 (m : Int), .int .i64 (s : Int)] 38)
     (fun e Y' => ((e = 3 ∧ 20000 < b.length) ∨ (e = 8 ∧ b.length ≤ 20000 ∧ ziq N b H rl = none)) ∧ Y' = ze5 Y g [.int .i64 0, .int .i64 0] 38)
     (fun H' fl' Y' ⟨_, _, _, _, e⟩ => by subst e; infer_instance) (fun e Y' ⟨_, e2⟩ => by subst e2; infer_instance) (fun H' fl' Y' ⟨_, _, h2, h3, _⟩ => by obtain ⟨_, _, _, _, _, _, h4, _⟩ := hI.ziq hN hF h2 h3; exact h4) fun jb mw L' w' hs2 hl hJ => ?_).to fun v w' h => ?_
   · have hgb2 := hs2 gb hgb
     have hrb2 := hrb.kl hl (.inr hgb)
     have hpL2 : ∀ c o, p = some ⟨c, o, none⟩ → c < lo ∨ c ∈ L2 := fun c o e => (hpL c o e).imp id (hLs _)
     have hsl : zaT w' p b.length 1 (bv b) := hs.kpd hl.kp fun c o e => zaq (hpL2 c o e)
     by_cases hb2 : b.length ≤ 20000
     ·exact (lay37 gb g _ _ p cap b hJ hI hrb2 hgb2 hsl hcap hb2 fun c o e => (hpL2 c o e).imp id (hs2 _)).zoK (fun v w2 ⟨m, s, H', fl', h1, h2, h3⟩ => ⟨H', fl', _, ⟨m, s, hb2, h1, rfl⟩, h2, h3⟩) fun c w2 ⟨h1, h2, h3, h4⟩ => ⟨8, _, ⟨.inr ⟨rfl, hb2, h1⟩, rfl⟩, h2, h3, h4⟩
     ·exact (lay37L gb g _ p cap _ hJ hrb2 (by omega)).zoK (fun v w2 h => h.elim) fun c w2 ⟨h2, h3, h4⟩ => ⟨3, _, ⟨.inl ⟨rfl, by omega⟩, rfl⟩, h2, h3, h4⟩
   · rcases h with ⟨H', fl', Y', ⟨m, s, h1, h2, rfl⟩, h4, h3, h5, h6⟩ | ⟨e, Y', ⟨⟨rfl, h1⟩ | ⟨rfl, h1, h2⟩, rfl⟩, h3, h5, h6⟩
     ·exact ⟨0, m, s, H', h3, h5, h6, .inr (.inr ⟨rfl, h1, h2⟩)⟩
     ·exact ⟨3, 0, 0, H, h3, h5, h6, .inl ⟨rfl, h1, rfl⟩⟩
     ·exact ⟨8, 0, 0, H, h3, h5, h6, .inr (.inl ⟨rfl, h1, h2, rfl⟩)⟩
 refine zas (fn := Tryz.f11) (rs := [.cell 4 38, .tmp 5]) (n := 16) Tryz.func11 rfl rfl Tryz.ntmps11 (by kernel_rfl) rfl ?_
 refine zaf (zaa ?_)
 refine zay rfl (zaU ([.slice p b.length cap]) rfl (fun g3 w3 hg3 hr3 hb3 => ?_))
 have sz_g3 := hLL.size
 have lt_hb_g3 : hb < g3 := Nat.lt_of_lt_of_le hr.lt hg3
 replace hLL := hLL.new hb3
 replace hr := hr.new hb3
 replace h := h.newc hb3 hg3 hr3.lt
 replace hs := hs.new hb3
 refine zay rfl (zar ([Value.int .i64 0, Value.int .i64 0]) (by kernel_rfl) (fun g4 w4 hg4 hr4 hb4 => ?_))
 have lt_hb_g4 : hb < g4 := Nat.lt_of_lt_of_le hr.lt hg4
 have lt_g3_g4 : g3 < g4 := Nat.lt_of_lt_of_le hr3.lt hg4
 replace hLL := hLL.new hb4
 replace hr := hr.new hb4
 replace h := h.newc hb4 hg4 hr4.lt
 replace hs := hs.new hb4
 replace hr3 := hr3.new hb4
 refine zad (zac) (zae (zah (zaf (zaa ?_))))
 have hp6 := h
 refine zay rfl (zar ([Value.int .i64 0, Value.int .i64 0]) (by kernel_rfl) (fun g6 w6 hg6 hr6 hb6 => ?_))
 have lt_hb_g6 : hb < g6 := Nat.lt_of_lt_of_le hr.lt hg6
 have lt_g3_g6 : g3 < g6 := Nat.lt_of_lt_of_le hr3.lt hg6
 have lt_g4_g6 : g4 < g6 := Nat.lt_of_lt_of_le hr4.lt hg6
 replace hLL := hLL.new hb6
 replace hr := hr.new hb6
 replace hs := hs.new hb6
 replace hr3 := hr3.new hb6
 replace hr4 := hr4.new hb6
 have h6 := zkv hp6 hb6 hr6 hg6
 have hl3 := hr3.lt
 have hl4 := hr4.lt
 refine zae (zah (zaf (zaa (zad (zab) (zad (zaW) ?_)))))
 refine zao rfl (zaj (by kernel_rfl) rfl) (hrun g3 g6 w6 (g4 :: g3 :: L) (by simp) (hL34 g4 g3) hr hr3 hs h6) ?_
 rintro _ w10 ⟨e, m, s, H2, rfl, h7, hb10, hcase⟩
 replace hLL := hLL.ll hb10 (fun b hb => by simp [hb])
 replace hr4 := hr4.kl hb10
 refine zad (zac) (zae (zah (zaf (zaf (zaa (zad (zab) ?_))))))
 refine zad (zaM rfl rfl) ?_
 refine zae (zah ?_)
 refine zbf rfl (fun hne => ?_) (fun hne => ?_)
 ·
  refine zaf (zaa ?_)
  refine zad (zbi ([Value.int .i64 0, Value.int .i64 0]) (by kernel_rfl)) ?_
  refine zad (zab) ?_
  refine zaG rfl (zaO 2 ([.int .i64 0, .int .i64 0]) hr4 (fun w901 hr4 ho901 => ?_))
  replace hLL := hLL.oq ho901
  replace h7 := h7.only ho901 (by first | (right; simp; done) | (left; omega) | (right; simp [*]; done))
  refine zad (zac) (zae (zah (zaz (zaP ?_))))
  refine zam [_, _] ⟨⟨_, rfl, Ld.zbX (k := 2) hr4 (by kernel_rfl) (by kernel_rfl) (by first | (simp; done) | (simp [zal, *]; done) | assumption)⟩, rfl, trivial⟩ ?_
  have h8 := (zge h7).weak (L2 := L) fun b hb => by simp [hb]
  refine ⟨?_, hLL⟩
  rcases hcase with ⟨rfl, h1, rfl⟩ | ⟨rfl, h1, h2, rfl⟩ | ⟨rfl, _⟩
  · exact .inl ⟨h1, rfl, h8⟩
  · exact .inr (.inl ⟨h1, h2, rfl, h8⟩)
  · exact absurd rfl hne
 ·
  have hc := zfy h7
  obtain ⟨hx6, hlo6, hnL6⟩ := hc
  refine zau (zah (zaf (zaa ?_)))
  refine zad (zaI rfl (Ld.zbX (k := 2) hx6 (by kernel_rfl) (by kernel_rfl) rfl)) ?_
  refine zaG rfl (zaO 2 ([.int .i64 (m : Int), .int .i64 (s : Int)]) hr4 (fun w902 hr4 ho902 => ?_))
  replace hLL := hLL.oq ho902
  replace h7 := h7.only ho902 (by first | (right; simp; done) | (left; omega) | (right; simp [*]; done))
  replace hx6 := hx6.only ho902 (Nat.ne_of_gt lt_g4_g6)
  refine zad (zac) (zae (zah (zaz ?_)))
  refine zam [_, _] ⟨⟨_, rfl, Ld.zbX (k := 2) hr4 (by kernel_rfl) (by kernel_rfl) (by first | (simp; done) | (simp [zal, *]; done) | assumption)⟩, rfl, trivial⟩ ?_
  have h8 := (zge h7).weak (L2 := L) fun b hb => by simp [hb]
  refine ⟨?_, hLL⟩
  rcases hcase with ⟨rfl, h1, rfl⟩ | ⟨rfl, h1, h2, rfl⟩ | ⟨rfl, h1, h2⟩
  · exact absurd (by decide) hne
  · exact absurd (by decide) hne
  · exact .inr (.inr ⟨h1, m, s, H2, h2, rfl, h8⟩)
end
end Go.Proofs.YtdbogkndglbffaaGreat
