import Derived.Test.YtielfpkjoidomaaGreatM6
namespace Go.Proofs.YtielfpkjoidomaaGreat
open Go Go.RowKit Coup
def recs (c : PgM) (a m : Nat) : Rec := (zcA c a m).map fun p => ⟨p.1, p.2⟩
theorem zcD {c : PgM} {a m : Nat} {b : Pg} (h : c a = some b) : recs c a (m + 1) = ⟨a, b⟩ :: recs c (a + 1) m := by
 unfold recs; rw [zcA, h]; rfl
theorem zcE {c : PgM} {a m : Nat} (h : c a = none) : recs c a (m + 1) = recs c (a + 1) m := by
 unfold recs; rw [zcA, h]
theorem zkp {c d : PgM} : ∀ (m a : Nat), (∀ i, a ≤ i → i < a + m → c i = d i) → recs c a m = recs d a m
 | 0, _, _ => rfl
 | m + 1, a, h => by
  have ih := zkp m (a + 1) fun i h1 h2 => h i (by omega) (by omega)
  have ha := h a (Nat.le_refl _) (by omega)
  cases hc : c a with
  | none => rw [zcE hc, zcE (ha.symm.trans hc), ih]
  | some b => rw [zcD hc, zcD (ha.symm.trans hc), ih]
theorem zpx {c : PgM} {a m : Nat} {h : Ch} (hh : h ∈ recs c a m) : ∃ i : Nat, h.num = i ∧ a ≤ i ∧ i < a + m ∧ c i = some h.page := by
 obtain ⟨p, hp, rfl⟩ := List.mem_map.1 hh
 obtain ⟨h1, h2, h3⟩ := zc1 hp
 exact ⟨p.1, rfl, h2, h3, h1⟩
theorem ins_gt {n : Int} {x : Pg} : ∀ (R : Rec), (∀ c ∈ R, n < c.num) → zfv n x true R = R ∧ zfv n x false R = ⟨n, x⟩ :: R
 | [], _ => ⟨rfl, rfl⟩
 | c :: R, h => by
  have h1 := h c (List.mem_cons_self ..)
  have ih := (ins_gt (x := x) R fun d hd => h d (List.mem_cons_of_mem _ hd)).1
  unfold zfv
  have h2 : ¬ c.num = n := by omega
  simp [h1, h2, ih]
theorem zl4 {c : PgM} {n : Nat} {x : Pg} : ∀ (m a : Nat), zfv n x true (recs c a m) = recs (zdB c n none) a m
 | 0, _ => rfl
 | m + 1, a => by
  have ih := zl4 (c := c) (n := n) (x := x) m (a + 1)
  by_cases han : a = n
  ·have hu : zdB c n none a = none := by unfold zdB; rw [if_pos han]
   rw [zcE hu, ← ih]
   cases hc : c a with
   | none => rw [zcE hc]
   | some b =>
    rw [zcD hc, zfv]
    simp [han]
  ·have hu : zdB c n none a = c a := by unfold zdB; rw [if_neg han]
   cases hc : c a with
   | none => rw [zcE hc, zcE (hu.trans hc), ih]
   | some b =>
    rw [zcD hc, zcD (hu.trans hc), zfv, ← ih]
    have h2 : ¬ ((a : Nat) : Int) = (n : Int) := by omega
    simp [h2]
theorem zkq {c : PgM} {n : Nat} {x : Pg} : ∀ (m a : Nat), a ≤ n → n < a + m → zfv n x false (recs c a m) = recs (zdB c n (some x)) a m
 | 0, a, h1, h2 => by omega
 | m + 1, a, h1, h2 => by
  by_cases han : a = n
  ·have hu : zdB c n (some x) a = some x := by unfold zdB; rw [if_pos han]
   have hr : recs (zdB c n (some x)) (a + 1) m = recs c (a + 1) m := zkp m (a + 1) fun i h3 _ => by unfold zdB; rw [if_neg (by omega)]
   have hg := ins_gt (n := (n : Int)) (x := x) (recs c (a + 1) m) fun h hh => by
    obtain ⟨i, e, h3, _⟩ := zpx hh
    omega
   rw [zcD hu, hr]
   rw [han] at hg ⊢
   rw [han] at hu
   cases hc : c n with
   | none => rw [zcE hc, hg.2]
   | some b =>
    rw [zcD hc, zfv]
    simp
    exact hg.2
  ·have ih := zkq (c := c) (n := n) (x := x) m (a + 1) (by omega) (by omega)
   have hu : zdB c n (some x) a = c a := by unfold zdB; rw [if_neg han]
   cases hc : c a with
   | none => rw [zcE hc, zcE (hu.trans hc), ih]
   | some b =>
    rw [zcD hc, zcD (hu.trans hc), zfv, ← ih]
    have h2 : ¬ ((a : Nat) : Int) = (n : Int) := by omega
    have h3 : ¬ (n : Int) < (a : Int) := by omega
    simp [h2, h3]
theorem ins_put {P : Pl} {V : Nat → Pg} {n : Nat} {x : Pg} (hX : zgg P n = V n) (hn : n < P.n) : zfv n x (decide (x = V n)) (zaU P) = zaU (zjt P n x) := by
 have e1 : (zjt P n x).n = P.n := (zc0 P n).2.2.2.2.2.2
 show zfv n x _ (recs P.ch 0 P.n) = recs (zjt P n x).ch 0 (zjt P n x).n
 rw [e1]
 show _ = recs (zdB P.ch n (if x = zgg P n then none else some x)) 0 P.n
 rw [hX]
 by_cases h : x = V n
 ·rw [if_pos h, decide_eq_true h, zl4]
 ·rw [if_neg h, decide_eq_false h, zkq _ _ (Nat.zero_le _) (by omega)]
def pgL (V : Nat → Pg) (n : Nat) : List Pg := (List.range n).map V
theorem zds (V : Nat → Pg) (n : Nat) : (pgL V n).length = n := by unfold pgL; rw [List.length_map, List.length_range]
theorem zfO {V : Nat → Pg} {n i : Nat} (h : i < n) : (pgL V n)[i]? = some (V i) := by
 unfold pgL; rw [List.getElem?_map, List.getElem?_range h]; rfl
theorem zhY {V : Nat → Pg} {n : Nat} (h : ∀ i, i < n → (V i).length = 512) : zmM (pgL V n) := fun p hp => by
 obtain ⟨i, hi, rfl⟩ := List.mem_map.1 hp
 exact h i (List.mem_range.1 hi)
theorem zl5 {V W : Nat → Pg} {n : Nat} (h : ∀ i, i < n → V i = W i) : pgL V n = pgL W n := by
 unfold pgL
 exact List.map_congr_left fun i hi => h i (List.mem_range.1 hi)
theorem pgL_inj {V W : Nat → Pg} {n : Nat} (h : pgL V n = pgL W n) : ∀ i, i < n → V i = W i := fun i hi => by
 have h1 := zfO (V := V) hi
 rw [h, zfO hi] at h1
 exact (Option.some.inj h1).symm
theorem pgL_set {V : Nat → Pg} {n i : Nat} (x : Pg) : (pgL V n).set i x = pgL (fun j => if j = i then x else V j) n := by
 refine List.ext_getElem? fun j => ?_
 rw [List.getElem?_set]
 by_cases hj : j < n
 ·rw [zfO hj, zfO hj, zds]
  by_cases hji : i = j
  ·subst hji; simp [hj]
  ·rw [if_neg hji, if_neg (fun e => hji e.symm)]
 ·rw [List.getElem?_eq_none (by rw [zds]; omega), List.getElem?_eq_none (by rw [zds]; omega), zds]
  split
  ·rename_i he; rw [if_neg (by omega)]
  ·rfl
theorem zjq (n : Nat) (c : PgM) : ∀ (m a : Nat) (V : Nat → Pg), vsS (pgL V n) (recs c a m) = pgL (fun i => if a ≤ i ∧ i < a + m then (c i).getD (V i) else V i) n
 | 0, a, V => by
  show pgL V n = _
  exact zl5 fun i _ => by rw [if_neg (by omega)]
 | m + 1, a, V => by
  cases hc : c a with
  | none =>
   rw [zcE hc, zjq n c m (a + 1) V]
   refine zl5 fun i _ => ?_
   by_cases h1 : a + 1 ≤ i ∧ i < a + 1 + m
   ·rw [if_pos h1, if_pos (show a ≤ i ∧ i < a + (m + 1) by omega)]
   ·rw [if_neg h1]
    by_cases h2 : i = a
    ·rw [if_pos (show a ≤ i ∧ i < a + (m + 1) by omega), h2, hc]; rfl
    ·rw [if_neg (show ¬ (a ≤ i ∧ i < a + (m + 1)) by omega)]
  | some b =>
   rw [zcD hc]
   show vsS ((pgL V n).set ((a : Nat) : Int).toNat b) _ = _
   rw [Int.toNat_natCast, pgL_set, zjq n c m (a + 1)]
   refine zl5 fun i _ => ?_
   by_cases h1 : a + 1 ≤ i ∧ i < a + 1 + m
   ·rw [if_pos h1, if_pos (show a ≤ i ∧ i < a + (m + 1) by omega), if_neg (show ¬ i = a by omega)]
   ·rw [if_neg h1]
    by_cases h2 : i = a
    ·rw [if_pos h2, if_pos (show a ≤ i ∧ i < a + (m + 1) by omega), h2, hc]; rfl
    ·rw [if_neg h2, if_neg (show ¬ (a ≤ i ∧ i < a + (m + 1)) by omega)]
theorem zl6 (P : Pl) (V : Nat → Pg) : vsS (pgL V P.n) (zaU P) = pgL (zcl P V) P.n := by
 show vsS (pgL V P.n) (recs P.ch 0 P.n) = _
 rw [zjq]
 refine zl5 fun i hi => ?_
 unfold zcl
 rw [if_pos (by omega), if_pos hi]
structure RpI (R : Rf) (P : Pl) (V : Nat → Pg) : Prop where
 vs : R.vs = pgL V P.n
 ch : R.ch = zaU P
 sz : R.sz = (P.G.size : Int)
theorem comC_E {R : Rf} {P : Pl} {V : Nat → Pg} (h : RpI R P V) : zkx R = zmL P := by
 unfold zkx zmL
 rw [h.ch, h.sz]
 by_cases h0 : (zaU P).length = 0
 ·rw [if_pos h0, if_pos h0]
 ·rw [if_neg h0, if_neg h0]
  by_cases h60 : 60 < (zaU P).length
  ·rw [if_pos h60, if_pos (by unfold zbK; rw [if_neg (by omega)])]
  ·rw [if_neg h60, if_neg fun e => ?_]
   have h1 := ze4 P.G (R := zaU P) (by omega) (by omega)
   rw [e, zey] at h1
   have h2 : 0 < zaY ((zaU P).length * 516) := by unfold zaY za1; omega
   rw [Nat.mul_comm] at h1
   omega
end Go.Proofs.YtielfpkjoidomaaGreat
namespace Go.Proofs.YtielfpkjoidomaaGreat
open Go Go.RowKit Coup Go.ChangeShapes Go.WideShapes Go.Deep
structure PLife where
 fuse : Int
 steps : List zko
 picks : List Int
def PlQ (W : World) (a : PLife) (cs : List Value) : Prop := ∃ q cp q2 cp2, cs = [.int .i64 a.fuse, .slice q a.steps.length cp, .slice q2 a.picks.length cp2] ∧ zdv (PsQ W) W 4 q a.steps.length a.steps ∧ za9 W q2 a.picks.length 1 (iv a.picks) ∧ okI a.picks ∧ zku a.fuse
theorem plQ_opn {H : Type} {enc : TypeId × Value → H} {W : World} {base : Nat} {spare : Nat → Bool} {held : Bool} : Opn enc Tryz.prog W base spare held 62 (PlQ W) := fun fuel cs x h => by
 obtain ⟨hl, m, hf⟩ := zlG Tryz.underlying62 h
 have hl2 : cs.length = 3 := hl.trans (by kernel_rfl)
 obtain ⟨_, h0⟩ := fld hf 0 0 1 rfl rfl (by kernel_rfl)
 obtain ⟨_, h1⟩ := fld hf 1 1 1 rfl rfl (by kernel_rfl)
 obtain ⟨_, h2⟩ := fld hf 2 2 1 rfl rfl (by kernel_rfl)
 obtain ⟨a, e0, w0⟩ := zgs (by kernel_rfl) _ _ _ h0
 obtain ⟨L, q, cp, e1, hcp, hL⟩ := zhx (e := 33) (n := 4) (by kernel_rfl) (by kernel_rfl) psQ_opn _ _ _ h1
 obtain ⟨R, q2, cp2, e2, hcp2, hR⟩ := zhx (e := 3) (n := 1) (by kernel_rfl) (by kernel_rfl) (zgs (k := .i64) (by kernel_rfl)) _ _ _ h2
 obtain ⟨hR1, hR2⟩ := el_ints hR
 refine ⟨⟨a, L, R⟩, q, cp, q2, cp2, ?_, hL, hR1, hR2, zeU w0⟩
 have k0 := zhy cs 0 1
 have k1 := zhy cs 1 1
 have k2 := zhy cs 2 1
 rw [e0] at k0
 rw [e1] at k1
 rw [e2, List.drop_of_length_le (l := cs) (i := 2 + 1) (by omega), List.append_nil] at k2
 rw [k2] at k1
 rw [k1] at k0
 rw [List.drop_zero] at k0
 exact k0
theorem zmN {H : Type} {enc : TypeId × Value → H} {W : World} {a : Option Addr} {len cap : Nat} {d : DataW H} {p : List MemPlace} (h : DataW.Trod enc Tryz.prog W 0 (fun _ => true) true 60 (.slice a len cap) d p) : (∃ R, zdv (PlQ W) W 3 a len R) ∧ len ≤ cap :=
 opn_arg (by kernel_rfl) (by kernel_rfl) plQ_opn h
theorem PlQ.below {w w' : World} {a : PLife} {cs : List Value} (h : PlQ w a cs) (hb : Below w.heap.size w w') : PlQ w' a cs := by
 obtain ⟨q, cp, q2, cp2, h1, h2, h3, h4⟩ := h
 exact ⟨q, cp, q2, cp2, h1, zpn h2 hb, h3.below hb (Nat.le_refl _), h4⟩
structure zgR (lo : Nat) (L : List Nat) (w : World) (q : Option Addr) (l : List Pg) : Prop where
 at_ : za9 w q l.length 512 (zeH l)
 sh : zkv lo L l.length q
 ok : zmM l
structure zky (lo : Nat) (L : List Nat) (w : World) (p : Option Addr) (ML : List (List Pg)) : Prop where
 ex : ∃ vs, za9 w p ML.length 1 vs ∧ zkv lo L ML.length p ∧ ∀ (i : Nat) S, ML[i]? = some S → ∃ q c, vs[i]? = some (.slice q S.length c) ∧ S.length ≤ c ∧ zgR lo L w q S
section
variable {lo : Nat} {L L2 M : List Nat} {w w' : World} {p q : Option Addr} {l : List Pg} {ML : List (List Pg)}
theorem zgR.kpd (h : zgR lo L w q l) (k : Kp M w w') (hM : ∀ b ∈ M, ¬ (b < lo ∨ b ∈ L)) : zgR lo L w' q l := ⟨zkv.kp (m := 0) h.sh h.at_ k hM, h.sh, h.ok⟩
theorem zky.kpd (h : zky lo L w p ML) (k : Kp M w w') (hM : ∀ b ∈ M, ¬ (b < lo ∨ b ∈ L)) : zky lo L w' p ML :=
 let ⟨vs, h1, h2, h3⟩ := h.ex; ⟨vs, zkv.kp (m := 0) h2 h1 k hM, h2, fun i r hr => let ⟨q, c, e, hc, h4⟩ := h3 i r hr; ⟨q, c, e, hc, h4.kpd k hM⟩⟩
theorem zgR.new (h : zgR lo L w q l) (hb : Below w.heap.size w w') : zgR lo L w' q l := h.kpd (M := []) (Kp.of_below hb) (by simp)
theorem zky.new (h : zky lo L w p ML) (hb : Below w.heap.size w w') : zky lo L w' p ML := h.kpd (M := []) (Kp.of_below hb) (by simp)
theorem zgR.ll (h : zgR lo L w q l) (k : LoL lo L2 w w') (h2 : ∀ b ∈ L, b ∈ L2) : zgR lo L w' q l := h.kpd k.kp (zhS h2)
theorem zky.ll (h : zky lo L w p ML) (k : LoL lo L2 w w') (h2 : ∀ b ∈ L, b ∈ L2) : zky lo L w' p ML := h.kpd k.kp (zhS h2)
theorem zgR.weak (h : zgR lo L w q l) (h2 : ∀ b ∈ L, b ∈ L2) : zgR lo L2 w q l := ⟨h.at_, h.sh.weak h2, h.ok⟩
theorem zky.weak (h : zky lo L w p ML) (h2 : ∀ b ∈ L, b ∈ L2) : zky lo L2 w p ML :=
 let ⟨vs, h1, h4, h3⟩ := h.ex; ⟨vs, h1, h4.weak h2, fun i r hr => let ⟨q, c, e, hc, h5⟩ := h3 i r hr; ⟨q, c, e, hc, h5.weak h2⟩⟩
theorem zoo {g t n1 n2 : Nat} {p1 p2 : Option Addr} {c1 c2 : Nat} {S1 S2 : List Pg} (hr : row w g [.slice p1 n1 c1, .slice p2 n2 c2] t) (e1 : n1 = S1.length) (e2 : n2 = S2.length) (h1 : zgR lo L w p1 S1) (h2 : zgR lo L w p2 S2) (hc1 : S1.length ≤ c1) (hc2 : S2.length ≤ c2) (hg : g ∈ L) : zky lo L w (some ⟨g, 0, none⟩) [S1, S2] := by
 subst e1 e2
 exact ⟨⟨_, hr.slA (m := 2) (sz := 1) rfl (by decide), fun _ b o e => by cases e; exact .inr hg, fun i S hS => by
  match i, hS with
  | 0, hS => cases hS; exact ⟨p1, c1, rfl, hc1, h1⟩
  | 1, hS => cases hS; exact ⟨p2, c2, rfl, hc2, h2⟩⟩⟩
theorem zjr {g t n1 : Nat} {p1 : Option Addr} {c1 : Nat} {S1 : List Pg} (hr : row w g [.slice p1 n1 c1] t) (e1 : n1 = S1.length) (h1 : zgR lo L w p1 S1) (hc1 : S1.length ≤ c1) (hg : g ∈ L) : zky lo L w (some ⟨g, 0, none⟩) [S1] := by
 subst e1
 exact ⟨⟨_, hr.slA (m := 1) (sz := 1) rfl (by decide), fun _ b o e => by cases e; exact .inr hg, fun i S hS => by
  match i, hS with
  | 0, hS => cases hS; exact ⟨p1, c1, rfl, hc1, h1⟩⟩⟩
theorem Pc.pgs {g c : Nat} (h : Pc g w q l.length 512 c (zeH l)) (hl : zmM l) (hb : ∀ b ∈ zch q l.length, b ∈ L) : zgR lo L w q l :=
 ⟨h.s, fun h0 b o e => .inr (hb b (zdm.2 ⟨h0, _, e, rfl⟩)), hl⟩
end
section
variable {Y : World → List Nat → Prop} [hYT : Thing Y] {g x q mc md lo : Nat} {rv cv : Value} {L : List Nat} {P : Pl} {V : Nat → Pg} {T : List (Nat × Rec)} {w : World}
theorem zbc.zkr (h : zbc g x q mc md rv cv Y lo L P w) : ∃ B, Y w B ∧ (∀ b ∈ B, lo ≤ b ∧ b ∉ L) ∧ (∀ (Y' : World → List Nat → Prop) [Thing Y'] (w' : World) (B' : List Nat), Y' w' B' → Mv B B' w w' → zbc g x q mc md rv cv Y' lo L P w' ∧ LoL lo L w w') ∧ Two (DZ g P.D) None lo (B ++ L) w := by
 obtain ⟨⟨B, C, h1, h2, h3, h4⟩, h5, h6⟩ := h.lg.two
 refine ⟨C, h2, fun b hb => ⟨(h4 b hb).1, fun hm => (h4 b hb).2 (by simp [hm])⟩, fun Y' _ w' B' hY' hm => ⟨?_, LoL.zhp hm.k fun b hb => .inl ⟨(h4 b hb).1, fun hm => (h4 b hb).2 (by simp [hm])⟩⟩, ⟨⟨B, [], h1, rfl, fun b hb => ⟨(h3 b hb).1, by simp, fun hm => ?_⟩, fun b hb => nomatch hb⟩, h5, fun b hb => ?_⟩⟩
 ·have hC : ∀ b ∈ x :: (cv.ownBlock.toList ++ q :: mc :: md :: L), b ∉ C := fun b hb hc => (h4 b hc).2 hb
  have ht : Two (DZ g P.D) Y' lo (x :: (cv.ownBlock.toList ++ q :: mc :: md :: L)) w' :=
   (Two.mv (X := Y) (X' := Y') (Y := DZ g P.D) hY' h1 (fun b hb => ⟨(h4 b hb).1, fun hc => (h3 b hc).2.1 hb, (h4 b hb).2⟩) (fun b hb => ⟨(h3 b hb).1, (h3 b hb).2.2⟩) h5 h6 hm).swap
  exact ⟨⟨ht, h.lg.rowx.kpd hm.k (hC x (by simp)), h.lg.ge, h.lg.ni⟩, h.row.kpd hm.k (hC q (by simp)), h.mch.kpd hm.k (hC mc (by simp)), h.mdi.kpd hm.k (hC md (by simp)), h.own.kpd hm.k (fun b hb e => hC b (by simp [e]) hb), h.qm, h.qd, h.md', h.cq, h.ql, h.mcl, h.mdl⟩
 ·rcases List.mem_append.1 hm with hm | hm
  ·exact (h3 b hb).2.1 hm
  ·exact (h3 b hb).2.2 (by simp [hm])
 ·rcases List.mem_append.1 hb with hb | hb
  ·exact hYT.lt h2 b hb
  ·exact h6 b (by simp [hb])
theorem zbc.right {Pr : Program} {f : FuncId} {args : Array Value} {Y' : World → List Nat → Prop} [Thing Y'] {Rv : Value → Prop} (h : zbc g x q mc md rv cv Y lo L P w)
  (hc : ∀ B, Y w B → (∀ b ∈ B, lo ≤ b ∧ b ∉ L) → Calls Pr f args w (Ret fun v w' => Rv v ∧ ∃ B', Y' w' B' ∧ Mv B B' w w')) : Calls Pr f args w (Ret fun v w' => Rv v ∧ zbc g x q mc md rv cv Y' lo L P w' ∧ LoL lo L w w') := by
 obtain ⟨B, h1, h2, h3, _⟩ := h.zkr
 exact (hc B h1 h2).to fun v w' ⟨hv, B', hY', hm⟩ => ⟨hv, h3 Y' w' B' hY' hm⟩
end
section
variable {Y : World → List Nat → Prop} [hYT : Thing Y] {g x q mc md lo : Nat} {rv cv : Value} {L : List Nat} {P : Pl} {V : Nat → Pg} {T : List (Nat × Rec)} {w : World}
theorem PlJ.gP (h : PlJ P V T) (n : Int) : PlJ (gP P n) V T := by
 unfold Go.Proofs.YtielfpkjoidomaaGreat.gP
 split
 ·rename_i hn; exact h.zg1 (by unfold inP at hn; omega)
 ·exact h
theorem PlJ.pP (h : PlJ P V T) (n : Int) {X : Pg} (hX : X.length = 512) : PlJ (pP P n X) V T := by
 unfold Go.Proofs.YtielfpkjoidomaaGreat.pP
 split
 ·rename_i hn; exact h.zjt (by unfold inP at hn; omega) hX
 ·exact h
theorem jGet (h : zbc g x q mc md cv cv Y lo L P w) (hi : PlJ P V T) (n : Int) : Calls Tryz.prog 17 [.pointer (some ⟨q, 0, none⟩), .int .i64 n].toArray w (Ret fun v w' => v = .tuple #[.agg (bv (gX P V n)).toArray, .int .i64 (rdE P n)] ∧ (∃ cv', zbc g x q mc md cv' cv' Y lo L (gP P n) w') ∧ LoL lo L w w') := by
 by_cases hn : inP P n
 ·have hn2 := hn
  unfold inP at hn2
  obtain ⟨m, rfl⟩ : ∃ m : Nat, n = m := ⟨n.toNat, by omega⟩
  unfold gX rdE gP
  rw [if_pos hn, if_pos hn, if_pos hn, Int.toNat_natCast, ← hi.zmD (by omega)]
  exact znZ h hi.ok hi.de m (by omega)
 ·unfold gX gP
  rw [if_neg hn, if_neg hn, zlU]
  have hr := rd_is hi.de n
  have hne : zce P n ≠ 0 := by rw [hr]; unfold rdE; rw [if_neg hn]; omega
  have hg := getNo h hi.ok.lg.szm n hne
  rw [hr] at hg
  exact hg.to fun v w' ⟨h1, h2⟩ => ⟨h1, ⟨cv, h.new h2⟩, LoL.of_below h2⟩
theorem jPut (h : zbc g x q mc md cv cv Y lo L P w) (hi : PlJ P V T) (n : Int) {X : Pg} (hX : X.length = 512) : Calls Tryz.prog 12 [.pointer (some ⟨q, 0, none⟩), .int .i64 n, .agg (bv X).toArray].toArray w (Ret fun v w' => v = .int .i64 (rdE P n) ∧ (∃ cv', zbc g x q mc md cv' cv' Y lo L (pP P n X) w') ∧ LoL lo L w w') := by
 by_cases hn : inP P n
 ·have hn2 := hn
  unfold inP at hn2
  obtain ⟨m, rfl⟩ : ∃ m : Nat, n = m := ⟨n.toNat, by omega⟩
  unfold rdE pP
  rw [if_pos hn, if_pos hn, Int.toNat_natCast]
  exact zn0 h hi.ok hi.de m (by omega) X hX
 ·unfold pP
  rw [if_neg hn]
  have hr := rd_is hi.de n
  have hne : zce P n ≠ 0 := by rw [hr]; unfold rdE; rw [if_neg hn]; omega
  have hg := putNo h hi.ok.lg.szm n X hne
  rw [hr] at hg
  exact hg.to fun v w' ⟨h1, h2⟩ => ⟨h1, ⟨cv, h.new h2⟩, LoL.of_below h2⟩
theorem jCommit (h : zbc g x q mc md cv cv Y lo L P w) (hi : PlJ P V T) : Calls Tryz.prog 16 [.pointer (some ⟨q, 0, none⟩)].toArray w (Ret fun v w' => v = .int .i64 (zaC P).1 ∧ (∃ cv', zbc g x q mc md cv' cv' Y lo L (zaC P).2 w') ∧ LoL lo L w w') :=
 zkc h hi.ok hi.de (zbE hi.on.short (by omega))
theorem jAbort (h : zbc g x q mc md cv cv Y lo L P w) (hi : PlJ P V T) : Calls Tryz.prog 14 [.pointer (some ⟨q, 0, none⟩)].toArray w (Ret fun v w' => v = .int .i64 0 ∧ zbc g x q mc md cv cv Y lo L { P with ch := noP } w' ∧ LoL lo L w w') :=
 (abortP h hi.ok).to fun v w' ⟨h1, h2, h3⟩ => by
  rw [if_neg (by rw [hi.de]; simp)] at h1 h2
  exact ⟨h1, h2, h3⟩
theorem jCheck (h : zbc g x q mc md cv cv Y lo L P w) (hi : PlJ P V T) : Calls Tryz.prog 19 [.pointer (some ⟨q, 0, none⟩)].toArray w (Ret fun v w' => v = .int .i64 (zbk P).1 ∧ zbc g x q mc md cv cv Y lo L (zbk P).2 w' ∧ LoL lo L w w') :=
 checkP h hi.ok hi.de (zbE hi.on.short (by omega))
theorem PlJ.check (h : PlJ P V T) (hc : P.G.count < 4611686018427387904) (hn : P.n ≤ 2048) :
  ((zbk P).1 ≠ 10 ∧ (∃ T', PlJ (zbk P).2 V T') ∧ (zbk P).2.G.count ≤ P.G.count + 1 ∧ (zbk P).2.n = P.n ∧ (zbk P).2.G.size = P.G.size ∧ (zbk P).2.ch = P.ch) ∨
  ((zbk P).1 = 10 ∧ (zbk P).2.D.dead = true ∧ (zbk P).2.dead = true ∧ (zbk P).2.G.size = P.G.size ∧ zdt (zbk P).2.D P.G.size P.n (P.G.count + 1) (· = V)) := by
 unfold zbk
 split
 ·obtain ⟨l1, l2, l3, l4, l5, l6, l7⟩ := zcc P
  rcases h.settle hc hn with ⟨t1, t2, t3, t4⟩ | ⟨t1, t2, t3, t4⟩
  ·left
   have ek : keepR (zaK P).1 (zaK P).2 = (zaK P).2 := by
    unfold keepR
    rw [t1, t2.de]
    have := t2.de
    show ({ (zaK P).2 with dead := false } : Pl) = _
    rw [← this]
   dsimp only
   rw [ek]
   exact ⟨by rw [t1]; decide, ⟨[], t2⟩, by rw [t4]; exact Nat.le_refl _, l7, l2, l3⟩
  ·right
   refine ⟨t1, t2, ?_, l2, t4⟩
   show ((zaK P).2.dead || decide ((zaK P).1 = 10)) = true
   rw [t1]; simp
 ·left
  exact ⟨(show ¬ (17 : Int) = 10 by decide), ⟨T, h⟩, Nat.le_succ _, rfl, rfl, rfl⟩
theorem dGet (h : zbc g x q mc md rv cv Y lo L P w) (hsz : P.G.size ≤ 4000) (hde : P.dead = true) (n : Int) : Calls Tryz.prog 17 [.pointer (some ⟨q, 0, none⟩), .int .i64 n].toArray w (Ret fun v w' => v = .tuple #[.agg zP.toArray, .int .i64 10] ∧ Below w.heap.size w w') := by
 have hr : zce P n = 10 := by unfold zce; rw [if_pos hde]
 have hg := getNo h hsz n (by rw [hr]; decide)
 rw [hr] at hg
 exact hg
theorem dPut (h : zbc g x q mc md rv cv Y lo L P w) (hsz : P.G.size ≤ 4000) (hde : P.dead = true) (n : Int) (X : Pg) : Calls Tryz.prog 12 [.pointer (some ⟨q, 0, none⟩), .int .i64 n, .agg (bv X).toArray].toArray w (Ret fun v w' => v = .int .i64 10 ∧ Below w.heap.size w w') := by
 have hr : zce P n = 10 := by unfold zce; rw [if_pos hde]
 have hg := putNo h hsz n X (by rw [hr]; decide)
 rw [hr] at hg
 exact hg
set_option maxRecDepth 20000 in
theorem dAbort (h : zbc g x q mc md rv cv Y lo L P w) (hsz : P.G.size ≤ 4000) (hde : P.dead = true) : Calls Tryz.prog 14 [.pointer (some ⟨q, 0, none⟩)].toArray w (Ret fun v w' => v = .int .i64 10 ∧ Below w.heap.size w w') := by
 have hB := Below.refl w.heap.size w
 have hrd := zfs h hsz 0
 unfold zce at hrd
 rw [if_pos hde] at hrd
 refine zaw (fn := Tryz.f14) (rs := [.tmp 2]) (n := 13) Tryz.func14 rfl rfl Tryz.ntmps14 (by kernel_rfl) rfl ?_
 refine zak (zac (zaa rfl (zad) (zaf (zai (zak (zak (zac (zaa rfl (zab) ?_))))))))
 refine zat rfl (zao (by kernel_rfl) rfl) (hrd) ?_
 rintro _ w5 ⟨rfl, hb5⟩
 replace hB := hB.acc hb5
 refine zaa rfl (zad) (zaf (zai (zak (zac (zaa rfl (zab) ?_)))))
 refine zaa rfl (zaW rfl rfl) ?_
 refine zaf (zai ?_)
 refine zkt rfl ((by simp)) ?_
 refine zak (zac (zaa rfl (zab) (zaa rfl (zad) (zaf (zai (zax (zaT ?_)))))))
 refine zar [_] ⟨rfl, trivial⟩ ?_
 exact ⟨rfl, hB⟩
def oneP : Pg := 1 :: List.replicate 511 0
theorem oneP_bv : bv oneP = .int .u8 1 :: List.replicate 511 (.int .u8 0) := by unfold oneP bv; rw [List.map_cons, List.map_replicate]; rfl
set_option maxRecDepth 20000 in
theorem zl7 (h : zbc g x q mc md rv cv Y lo L P w) (hsz : P.G.size ≤ 4000) (hde : P.dead = true) : Calls Tryz.prog 52 [.pointer (some ⟨q, 0, none⟩)].toArray w (Ret fun v w' => v = .bool true ∧ Below w.heap.size w w') := by
 have hB := Below.refl w.heap.size w
 have hz : zP.length = 512 := List.length_replicate
 have hz1 : ∀ v ∈ zP, Value.oneCell' v = true := fun v hv => by rw [(List.mem_replicate.1 hv).2]; rfl
 have hd := fun w' (hb : Below w.heap.size w w') => deadP (h.new hb)
 rw [hde] at hd
 have hw := fun w' (hb : Below w.heap.size w w') => h.new hb
 have hob := oneP_bv
 generalize oneP = o1 at hob
 refine zaw (fn := Tryz.f52) (rs := [.tmp 2]) (n := 37) Tryz.func52 rfl rfl Tryz.ntmps52 (by kernel_rfl) rfl ?_
 refine zak (zac (zaa rfl (zad) (zaf (zai (zak (zac (zaa rfl (zab) ?_)))))))
 refine zat rfl (zao (by kernel_rfl) rfl) (dGet h hsz hde 0) ?_
 rintro _ w7 ⟨rfl, hb7⟩
 replace hB := hB.acc hb7
 refine zaa rfl (zab) (zaa rfl (zan rfl rfl) (zaa rfl (zan rfl rfl) ?_))
 refine zaX rfl (zaO (List.replicate 512 (Value.int .u8 0)) (by kernel_rfl) (fun g3 w3 hg3 hr3 hb3 => ?_))
 have ge_hB_g3 := Nat.le_trans hB.size hg3
 replace hB := hB.acc hb3
 refine za4 rfl (zav 512 (zP) rfl rfl hr3 (by kernel_rfl) (by first | assumption | (simp; done) | (simp [zae, *]; done)) (by first | assumption | (simp; done) | (simp [zae, *]; done) | rfl) (by first | exact zaL _ | assumption | (simp [Value.oneCell']; done)) (fun w901 hr3 ho901 => ?_))
 replace hB := ho901.below hB ge_hB_g3
 refine zaa rfl (zad) (zaf (zai (zak (zac (zaa rfl (zab) ?_)))))
 refine zat rfl (zao (by kernel_rfl) rfl) (hd w901 hB) ?_
 rintro _ _ ⟨rfl, rfl⟩
 refine zaa rfl (zab) ?_
 refine zoB 12 rfl (rfl) ?_
 refine zas rfl (zaa rfl (zab) (zas rfl ?_))
 refine zaa rfl (zbr rfl rfl) ?_
 refine zaa rfl (zay rfl) (zaa rfl (zab) ?_)
 refine zjz 16 rfl (rfl) ?_
 refine zas rfl (zaa rfl (zab) (zas rfl ?_))
 refine zaa rfl (zm7 (.int .u8 1) (bv o1) rfl (by rw [hob]; kernel_rfl)) ?_
 refine zas rfl ?_
 refine zat rfl (zao (by kernel_rfl) rfl) (dPut (hw _ hB) hsz hde 0 o1) ?_
 rintro _ w19 ⟨rfl, hb19⟩
 replace hr3 := hr3.new hb19
 replace hB := hB.acc hb19
 refine zas rfl ?_
 refine zaa rfl (zbr rfl rfl) ?_
 refine zaa rfl (zay rfl) (zaa rfl (zab) ?_)
 refine zjz 22 rfl (rfl) ?_
 refine zas rfl (zaa rfl (zab) (zas rfl ?_))
 refine zat rfl (zao (by kernel_rfl) rfl) (zpe (hw _ hB) hsz hde) ?_
 rintro _ w24 ⟨rfl, hb24⟩
 replace hr3 := hr3.new hb24
 replace hB := hB.acc hb24
 refine zas rfl ?_
 refine zaa rfl (zbr rfl rfl) ?_
 refine zaa rfl (zay rfl) (zaa rfl (zab) ?_)
 refine zjz 27 rfl (rfl) ?_
 refine zas rfl (zaa rfl (zab) (zas rfl ?_))
 refine zat rfl (zao (by kernel_rfl) rfl) (dAbort (hw _ hB) hsz hde) ?_
 rintro _ w29 ⟨rfl, hb29⟩
 replace hr3 := hr3.new hb29
 replace hB := hB.acc hb29
 refine zas rfl ?_
 refine zaa rfl (zbr rfl rfl) ?_
 refine zaa rfl (zay rfl) (zaa rfl (zab) ?_)
 refine zjz 32 rfl (rfl) ?_
 refine zas rfl (zaa rfl (zab) (zas rfl ?_))
 refine zat rfl (zao (by kernel_rfl) rfl) (checkNo (hw _ hB) hsz hde) ?_
 rintro _ w34 ⟨rfl, hb34⟩
 replace hr3 := hr3.new hb34
 replace hB := hB.acc hb34
 refine zas rfl ?_
 refine zaa rfl (zbr rfl rfl) ?_
 refine zaa rfl (zay rfl) (zaa rfl (zad) (zaf (zai (zax ?_))))
 refine zar [_] ⟨rfl, trivial⟩ ?_
 exact ⟨rfl, hB⟩
end
end Go.Proofs.YtielfpkjoidomaaGreat
namespace Go.Proofs.YtielfpkjoidomaaGreat
open Go Go.RowKit Coup
def RfP (g : Nat) (R : Rf) (p1 : Option Addr) (c1 : Nat) : World → List Nat → Prop := fun w B => ∃ p2 c2 p3 c3 p4 c4, RfAt g R p1 c1 p2 c2 p3 c3 p4 c4 w ∧ B = g :: (zch p1 R.vs.length ++ zch p2 R.ch.length ++ zch p3 R.di.length ++ zch p4 R.cl.length)
theorem RfP.z {g : Nat} {R : Rf} {p1 : Option Addr} {c1 : Nat} {w : World} {B : List Nat} (h : RfP g R p1 c1 w B) : RfZ g R w B := ⟨p1, c1, h⟩
instance (g : Nat) (R : Rf) (p1 : Option Addr) (c1 : Nat) : Thing (RfP g R p1 c1) :=
 ⟨fun {w w' B M} ⟨p2, c2, p3, c3, p4, c4, h, e⟩ k hM => by
   subst e
   refine ⟨p2, c2, p3, c3, p4, c4, ⟨h.row.kpd k (hM g (by simp)), h.s1.kpd k fun b hb => hM b ?_, h.s2.kpd k fun b hb => hM b ?_, h.s3.kpd k fun b hb => hM b ?_, h.s4.kpd k fun b hb => hM b ?_⟩, rfl⟩ <;> simp [hb],
  fun {w B} h b hb => (inferInstance : Thing (RfZ g R)).lt h.z b hb⟩
theorem RfP.mem {g : Nat} {R : Rf} {p1 : Option Addr} {c1 : Nat} {w : World} {B : List Nat} (h : RfP g R p1 c1 w B) : g ∈ B ∧ ∀ b ∈ zch p1 R.vs.length, b ∈ B := by
 obtain ⟨p2, c2, p3, c3, p4, c4, h, e⟩ := h
 subst e
 exact ⟨by simp, fun b hb => by simp [hb]⟩
theorem ze9.mv {g : Nat} {R0 R : Rf} {B : List Nat} {w w' : World} (h0 : RfZ g R0 w B) (h : ze9 g R B w w') : ∃ B' p1 c1, RfP g R p1 c1 w' B' ∧ Mv B B' w w' := by
 obtain ⟨⟨B', ⟨p1, c1, hz⟩, hB⟩, k⟩ := h
 obtain ⟨q1, d1, hz0⟩ := h0
 have hg := (RfP.mem (p1 := q1) (c1 := d1) hz0).1
 exact ⟨B', p1, c1, hz, ⟨k.k.weak fun _ _ hm => by rw [List.mem_singleton.1 hm]; exact hg, hB⟩⟩
section
variable {Y : World → List Nat → Prop} [hYT : Thing Y] {g x q mc md lo gR DB c1 : Nat} {rv cv : Value} {L : List Nat} {P : Pl} {V : Nat → Pg} {R : Rf} {p1 : Option Addr} {w w' : World}
theorem zbc.rf (h : zbc g x q mc md rv cv (RfP gR R p1 c1) lo L P w) : ∃ p2 c2 p3 c3 p4 c4, RfAt gR R p1 c1 p2 c2 p3 c3 p4 c4 w := by
 obtain ⟨B, ⟨p2, c2, p3, c3, p4, c4, h1, _⟩, _, _, _⟩ := h.zkr
 exact ⟨p2, c2, p3, c3, p4, c4, h1⟩
theorem rPut (h : zbc g x q mc md rv cv (RfP gR R p1 c1) lo L P w) (hk : zps R DB) (n : Nat) {X v0 : Pg} (hv0 : R.vs[n]? = some v0) (hx : X.length = 512) : Calls Tryz.prog 50 [.pointer (some ⟨gR, 0, none⟩), .int .i64 (n : Int), .agg (bv X).toArray].toArray w (Ret fun v w' => v = .tuple #[] ∧ (∃ cl' p1' c1', (cl'.length : Int) ≤ R.fr ∧ zbc g x q mc md rv cv (RfP gR { R with cl := cl', ch := zfv n X (decide (X = v0)) R.ch } p1' c1') lo L P w') ∧ LoL lo L w w') := by
 obtain ⟨B, h1, h2, h3, _⟩ := h.zkr
 exact (put50 h1.z hk n hv0 hx).to fun v w' ⟨hv, cl', hc, hN⟩ => by
  obtain ⟨B', p1', c1', hz, hm⟩ := hN.mv h1.z
  obtain ⟨h4, h5⟩ := h3 _ w' B' hz hm
  exact ⟨hv, ⟨cl', p1', c1', hc, h4⟩, h5⟩
theorem rSettle (h : zbc g x q mc md rv cv (RfP gR R p1 c1) lo L P w) (hk : zps R DB) : Calls Tryz.prog 53 [.pointer (some ⟨gR, 0, none⟩)].toArray w (Ret fun v w' => v = .tuple #[] ∧ (∃ p1' c1', zbc g x q mc md rv cv (RfP gR { R with di := [], rm := R.sz } p1' c1') lo L P w') ∧ LoL lo L w w') := by
 obtain ⟨B, h1, h2, h3, _⟩ := h.zkr
 exact (zl3 h1.z hk).to fun v w' ⟨hv, hN⟩ => by
  obtain ⟨B', p1', c1', hz, hm⟩ := hN.mv h1.z
  obtain ⟨h4, h5⟩ := h3 _ w' B' hz hm
  exact ⟨hv, ⟨p1', c1', h4⟩, h5⟩
omit hYT in
theorem zbc.addY {C : List Nat} (h : zbc g x q mc md rv cv None lo L P w) (hb : Below w.heap.size w w') (hY : Y w' C) (hC : ∀ b ∈ C, w.heap.size ≤ b) : zbc g x q mc md rv cv Y lo L P w' := by
 have h2 := h.new hb
 exact ⟨⟨h.lg.two.add hb hY hC, h2.lg.rowx, h.lg.ge, h.lg.ni⟩, h2.row, h2.mch, h2.mdi, h2.own, h.qm, h.qd, h.md', h.cq, h.ql, h.mcl, h.mdl⟩
omit hYT in
theorem zbc.dz (h : zbc g x q mc md rv cv Y lo L P w) : Two (DZ g P.D) None lo L w := h.lg.two.fst.weak fun b hb => by simp [hb]
end
theorem zpy {X Y : World → List Nat → Prop} [hX : Thing X] [hY : Thing Y] {lo : Nat} {L M N : List Nat} {w w' : World} (h : Two X Y lo L w) (k : Kp M w w') (hM : ∀ b ∈ M, b < lo ∨ b ∈ L) (hN : ∀ b ∈ N, b ∈ L ∨ w.heap.size ≤ b) (hN' : ∀ b ∈ N, b < w'.heap.size) : Two X Y lo (N ++ L) w' := by
 have hno : ∀ b, b < w.heap.size → b ∉ L → b ∉ N ++ L := fun b hb hl hm => (List.mem_append.1 hm).elim (fun hm => (hN b hm).elim hl fun hs => absurd hb (Nat.not_lt.2 hs)) hl
 obtain ⟨⟨B, C, h1, h2, h3, h4⟩, h5, h6⟩ := h
 refine ⟨⟨B, C, ?_, ?_, fun b hb => ⟨(h3 b hb).1, (h3 b hb).2.1, hno b (hX.lt h1 b hb) (h3 b hb).2.2⟩, fun b hb => ⟨(h4 b hb).1, hno b (hY.lt h2 b hb) (h4 b hb).2⟩⟩, Nat.le_trans h5 k.size, fun b hb => ?_⟩
 ·exact hX.kpd h1 k fun b hb hm => (hM b hm).elim (fun hl => absurd (h3 b hb).1 (Nat.not_le.2 hl)) (h3 b hb).2.2
 ·exact hY.kpd h2 k fun b hb hm => (hM b hm).elim (fun hl => absurd (h4 b hb).1 (Nat.not_le.2 hl)) (h4 b hb).2
 ·rcases List.mem_append.1 hb with hb | hb
  ·exact hN' b hb
  ·exact Nat.lt_of_lt_of_le (h6 b hb) k.size
theorem rCommit {g x q mc md lo gR DB c1 : Nat} {rv cv : Value} {L : List Nat} {P : Pl} {R : Rf} {p1 : Option Addr} {w : World} (h : zbc g x q mc md rv cv (RfP gR R p1 c1) lo L P w) (hk : zps R DB) (hnum : ∀ c ∈ R.ch, ∃ m : Nat, c.num = m ∧ m < R.vs.length) : Calls Tryz.prog 51 [.pointer (some ⟨gR, 0, none⟩)].toArray w (Ret fun v w' => v = .int .i64 (zkx R) ∧
  (∃ R' p1' c1' L2, ComR R R' ∧ zbc g x q mc md rv cv (RfP gR R' p1' c1') lo L P w' ∧ Two (DZ g P.D) None lo L2 w' ∧ zgR lo L2 w' p1 R.vs ∧ R.vs.length ≤ c1 ∧ zgR lo L2 w' p1' R'.vs ∧ R'.vs.length ≤ c1') ∧ LoL lo L w w') := by
 obtain ⟨B, h1, h2, h3, h4⟩ := h.zkr
 have hg := h1.mem
 refine (zpw h1.z hk hnum).to ?_
 rintro v w' ⟨hv, R', hR, hN⟩
 have k3 : KpB [gR] w w' := hN.2
 obtain ⟨B', p1', c1', hz, hm⟩ := hN.mv h1.z
 obtain ⟨h5, h6⟩ := h3 _ w' B' hz hm
 have hlt := (inferInstance : Thing (RfP gR R' p1' c1')).lt hz
 have hT := zpy h4 (N := B') k3.k (fun b hb => by rw [List.mem_singleton.1 hb]; exact .inr (List.mem_append_left _ hg.1)) (fun b hb => (hm.sub b hb).imp (fun h7 => List.mem_append_left _ h7) id) hlt
 have hz2 := hz.mem
 obtain ⟨p2, c2, p3, c3, p4, c4, ha, e⟩ := h1
 obtain ⟨p2', c2', p3', c3', p4', c4', ha', e'⟩ := hz
 have hvs' : zmM R'.vs := by
  rw [hR.vs]
  split
  ·exact zon _ _ hk.vs hk.ch
  ·exact hk.vs
 exact ⟨hv, ⟨R', p1', c1', B' ++ (B ++ L), hR, h5, hT, (ha.s1.kp k3).pgs hk.vs (fun b hb => by simp [hg.2 b hb]), ha.s1.k, ha'.s1.pgs hvs' (fun b hb => by simp [hz2.2 b hb]), ha'.s1.k⟩, h6⟩
theorem zbc.chNil {g x q mc md lo gR c1 : Nat} {rv cv : Value} {L : List Nat} {P : Pl} {R : Rf} {p1 : Option Addr} {w : World} (h : zbc g x q mc md rv cv (RfP gR R p1 c1) lo L P w) : ∃ p2 c2 p3 c3 p4 c4, Coup.row w gR [.slice p1 R.vs.length c1, .slice p2 R.ch.length c2, .slice p3 R.di.length c3, .slice p4 R.cl.length c4, .int .i64 R.fr, .int .i64 R.sz, .int .i64 R.rm] 89 ∧ lo ≤ gR ∧ gR ∉ L ∧
  ∀ w', Coup.row w' gR [.slice p1 R.vs.length c1, .slice none 0 0, .slice p3 R.di.length c3, .slice p4 R.cl.length c4, .int .i64 R.fr, .int .i64 R.sz, .int .i64 R.rm] 89 → Only gR w w' → zbc g x q mc md rv cv (RfP gR { R with ch := [] } p1 c1) lo L P w' := by
 obtain ⟨B, h1, h2, h3, h4⟩ := h.zkr
 have hg := h1.mem
 obtain ⟨p2, c2, p3, c3, p4, c4, ha, e⟩ := h1
 have hq := ha.row
 unfold rfV at hq
 refine ⟨p2, c2, p3, c3, p4, c4, hq, (h2 gR hg.1).1, (h2 gR hg.1).2, fun w' hr ho => ?_⟩
 have k : KpB [gR] w w' := ⟨Kp.zbx ho⟩
 have hn3 : za9 w' none 0 513 [] := ⟨by simp, by omega, fun h => absurd h (by simp)⟩
 have hz : RfP gR { R with ch := [] } p1 c1 w' (gR :: (zch p1 R.vs.length ++ zch none 0 ++ zch p3 R.di.length ++ zch p4 R.cl.length)) :=
  ⟨none, 0, p3, c3, p4, c4, ⟨by unfold rfV; exact hr, ha.s1.kp k, ⟨hn3, by simp [zch], Nat.le_refl _⟩, ha.s3.kp k, ha.s4.kp k⟩, rfl⟩
 refine (h3 _ w' _ hz ⟨k.k.weak fun _ _ hm => by rw [List.mem_singleton.1 hm]; exact hg.1, fun b hb => .inl ?_⟩).1
 rw [e]
 simp only [List.mem_cons, List.mem_append] at hb ⊢
 rcases hb with hb | ((hb | hb) | hb) | hb
 ·exact .inl hb
 ·exact .inr (.inl (.inl (.inl hb)))
 ·simp [zch] at hb
 ·exact .inr (.inl (.inr hb))
 ·exact .inr (.inr hb)
theorem zks {P : Pl} {k : Nat} (h : zb6 P.D k) (hg : P.G.dead = false) : (zaK P).1 ≠ 10 := by
 obtain ⟨w1, w2, _⟩ := zdR P.G.size (zcA P.di 0 P.n) h
 obtain ⟨f1, f2⟩ := zcK w2
 unfold zaK zbz
 rw [if_pos w1, if_pos f1]
 show (zcC _ P.G).1 ≠ 10
 unfold zcC
 rw [if_neg (by rw [hg]; simp)]
 split
 ·exact (show ¬ (8 : Int) = 10 by decide)
 ·rw [if_pos (zdc f2 _ _).1]; exact (show ¬ (0 : Int) = 10 by decide)
theorem ziC {D : Dk} {k n fr : Nat} (h : zb6 D k) : zcY D (hdC (zaB D 0) + 1) (hdS (zaB D 0)) = true ∧ (zc5 D n fr).1 ≠ 10 := by
 obtain ⟨s1, s2, _⟩ := zdc h (hdC (zaB D 0) + 1) (hdS (zaB D 0))
 refine ⟨s1, ?_⟩
 have hs : (zaK (zbj D n fr)).1 ≠ 10 := zks (P := zbj D n fr) (k := 1) s2 rfl
 unfold zc5
 split
 ·exact (show ¬ (0 : Int) = 10 by decide)
 ·unfold zbk
  split
  ·exact hs
  ·exact (show ¬ (17 : Int) = 10 by decide)
theorem zop (D : Dk) (n fr : Nat) : (zc5 D n fr).2.D.V.length = D.V.length := by
 have h0 : (zbj D n fr).D.V.length = D.V.length := zdj _ _ _
 unfold zc5
 split
 ·exact h0
 ·unfold zbk
  split
  ·exact (zcc _).1.trans h0
  ·exact h0
def OpenJ (g lo : Nat) (L : List Nat) (D : Dk) (n N c fr : Nat) (V : Nat → Pg) (w : World) (v : Value) (w' : World) : Prop :=
  ∃ vq e, v = .tuple #[vq, .int .i64 e] ∧ LoL lo L w w' ∧
    ((e = 10 ∧ ∃ D2, D2.dead = true ∧ D2.V.length = D.V.length ∧ zdt D2 n N (c + 2) (· = V) ∧ Two (DZ g D2) None lo L w') ∨
     (e = 0 ∧ ∃ q x mc md cv P T, vq = .pointer (some ⟨q, 0, none⟩) ∧ zbc g x q mc md cv cv None lo L P w' ∧ PlJ P V T ∧ P.ch = noP ∧ P.di = noP ∧ P.n = N ∧ P.G.size = n ∧ P.G.count ≤ c + 2 ∧ P.fr = fr ∧ P.D.V.length = D.V.length))
theorem openJ {g lo n N c fr : Nat} {L : List Nat} {D : Dk} {w : World} {V : Nat → Pg} (h : Two (DZ g D) None lo L w) (hr : zfm D n N c V) (hd : D.dead = false) (hN : zfr D.V.length (n : Int) = N) (hN4 : 4 ≤ N) (hN2 : N ≤ 2048) (hc : c + 2 < 4611686018427387904) (h2 : 2 ≤ fr) (hm : fr ≤ 100) (hV : ∀ i, i < N → (V i).length = 512) :
  Calls Tryz.prog 18 [.pointer (some ⟨g, 0, none⟩), .int .i64 (n : Int), .int .i64 (fr : Int)].toArray w (Ret fun v w' => OpenJ g lo L D n N c fr V w v w' ∧ (∀ k, zb6 D k → ∃ vq, v = .tuple #[vq, .int .i64 0])) := by
 obtain ⟨o1, o2, o3, o4, o5⟩ := hr.opens hd hN hN4 hN2 hc h2 hm hV
 have hcn : ¬ zfr D.V.length (n : Int) < 4 := by omega
 have hlen := zop D n fr
 rcases o5 with ⟨s1, s2, s3, s4⟩ | ⟨s1, s5⟩
 ·refine (openBad h n fr hcn ⟨h2, hm⟩ o1 (zbE o4 (by omega)) s1).to fun v w' ⟨hv, hT, hk⟩ => ⟨⟨_, 10, hv, hk, .inl ⟨rfl, _, s2, zdj _ _ _, s4, hT⟩⟩, fun k ha => ?_⟩
  rw [(ziC (n := n) (fr := fr) ha).1] at s1
  cases s1
 ·refine (openOk h n fr hcn ⟨h2, hm⟩ o1 (zbE o4 (by omega)) s1).to fun v w' ⟨hh, hk⟩ => ?_
  rcases s5 with ⟨t1, ⟨T, t2⟩, t3, t4, t5, t6, t7, t8, t9⟩ | ⟨t1, t2, t3, t4⟩
  ·rcases hh with ⟨h1, _⟩ | ⟨_, x, q, mc, md, cv, hv, hP⟩
   ·exact absurd t1 h1
   ·exact ⟨⟨_, 0, hv, hk, .inr ⟨rfl, q, x, mc, md, cv, _, T, rfl, hP, t2, t3, t4, t5, t6, t7, t8, t9⟩⟩, fun _ _ => ⟨_, hv⟩⟩
  ·rcases hh with ⟨_, hv, hT⟩ | ⟨h1, _⟩
   ·rw [t1] at hv
    refine ⟨⟨_, 10, hv, hk, .inl ⟨rfl, _, t2, hlen, t4, hT⟩⟩, fun k ha => absurd t1 (ziC ha).2⟩
   ·rw [t1] at h1; cases h1
structure zpz (g lo n N cb m : Nat) (w : World) (v : Value) (w' : World) : Prop where
 ex : ∃ pm ML cm D' L', v = .tuple #[.slice pm ML.length cm, .bool true] ∧ Two (DZ g D') None lo L' w' ∧ zky lo L' w' pm ML ∧ ML.length ≤ 2 ∧ (∀ S ∈ ML, ∃ W, S = pgL W N ∧ ∀ i, i < N → (W i).length = 512) ∧ zdt D' n N cb (fun W => pgL W N ∈ ML) ∧ D'.V.length = m
 ll : LoL lo [] w w'
theorem zdt.imp {D : Dk} {n N cb cb' : Nat} {VS VS' : (Nat → Pg) → Prop} (h : zdt D n N cb VS) (hc : cb ≤ cb') (hV : ∀ W, VS W → VS' W) : zdt D n N cb' VS' := fun p => by
 obtain ⟨c, W, h1, h2, h3⟩ := h p
 exact ⟨c, W, Nat.le_trans h1 hc, hV W h2, h3⟩
theorem ld_pgh {w : World} {gR : Nat} {R : Rf} {p1 p2 p3 p4 : Option Addr} {c1 c2 c3 c4 : Nat} (h : RfAt gR R p1 c1 p2 c2 p3 c3 p4 c4 w) : Ld Tryz.prog w 63 ⟨gR, 0, none⟩ (.slice p1 R.vs.length c1) := by
 have hq := h.row
 unfold rfV at hq
 exact Ld.zbb hq (by kernel_rfl) rfl
set_option maxRecDepth 20000 in
theorem zpA (n : Nat) (s f : Int) (w : World) (hn : n ≤ 1000) (h0 : 0 < n) : Calls Tryz.prog 49 [.int .i64 (n : Int), .int .i64 s, .int .i64 f].toArray w (Ret fun v w' => (∃ gR gP t, v = .pointer (some ⟨gR, 0, none⟩) ∧ row w' gR [.slice (some ⟨gP, 0, none⟩) n n, .slice none 0 0, .slice none 0 0, .slice none 0 0, .int .i64 f, .int .i64 s, .int .i64 s] 89 ∧ row w' gP (zeH (List.replicate n zcM)) t ∧ gR ≠ gP ∧ w.heap.size ≤ gR ∧ w.heap.size ≤ gP) ∧ Below w.heap.size w w') := by
 have hB := Below.refl w.heap.size w
 have hml : maxLen = 9223372036854775807 := by decide
 have hzz := zgf n
 refine zaw (fn := Tryz.f49) (rs := [.tmp 6]) (n := 14) Tryz.func49 rfl rfl Tryz.ntmps49 (by kernel_rfl) rfl ?_
 refine zak (zac (zaa rfl (zad) (zaf (zai (zak (zac (zaa rfl (zab) ?_)))))))
 refine zaX rfl (ziN (e := 37) n (List.replicate 512 (.int .u8 0)) 512 512 (.int .u8 0) (by kernel_rfl) (by kernel_rfl) ⟨_, rfl, rfl⟩ ⟨_, rfl, rfl⟩ (by intro u hu; exact (List.mem_replicate.1 hu).2) (by simp) (by omega) (by omega) (fun g8 w8 hg8 hr8 hb8 => ?_))
 have ge_hB_g8 := Nat.le_trans hB.size hg8
 replace hB := hB.acc hb8
 rw [← hzz] at hr8
 refine zaa rfl (zab) (zaa rfl (zab) (zaa rfl (zab) ?_))
 refine zaa rfl (zoj (.slice (some ⟨g8, 0, none⟩) n n) (.int .i64 f) (.int .i64 s) (.int .i64 s) [.slice (some ⟨g8, 0, none⟩) n n, .slice none 0 0, .slice none 0 0, .slice none 0 0, .int .i64 f, .int .i64 s, .int .i64 s] rfl rfl rfl rfl (by kernel_rfl)) ?_
 refine zaX rfl (zca ([.slice (some ⟨g8, 0, none⟩) n n, .slice none 0 0, .slice none 0 0, .slice none 0 0, .int .i64 f, .int .i64 s, .int .i64 s]) rfl (fun g13 w13 hg13 hr13 hb13 => ?_))
 have ge_hB_g13 := Nat.le_trans hB.size hg13
 have lt_g8_g13 : g8 < g13 := Nat.lt_of_lt_of_le hr8.lt hg13
 replace hr8 := hr8.new hb13
 replace hB := hB.acc hb13
 refine zaa rfl (zad) (zaf (zai (zax ?_)))
 refine zar [_] ⟨rfl, trivial⟩ ?_
 exact ⟨⟨g13, g8, _, rfl, hr13, hr8, by omega, by omega, by omega⟩, hB⟩
theorem zpB {gR gP t N n fr : Nat} {V : Nat → Pg} {w : World} (hq : row w gR [.slice (some ⟨gP, 0, none⟩) N N, .slice none 0 0, .slice none 0 0, .slice none 0 0, .int .i64 (fr : Int), .int .i64 (n : Int), .int .i64 (n : Int)] 89) (hr : row w gP (zeH (pgL V N)) t) (hV : ∀ i, i < N → (V i).length = 512) (hne : gR ≠ gP) (hN : N ≤ 100000) :
  ∃ B, RfP gR ⟨pgL V N, [], [], [], (fr : Int), (n : Int), (n : Int)⟩ (some ⟨gP, 0, none⟩) N w B ∧ ∀ b ∈ B, b = gR ∨ b = gP := by
 have hml : maxLen = 9223372036854775807 := by decide
 have hl := zds V N
 have hok := zhY hV
 have hpl := zd3 hok
 rw [hl] at hpl
 have hsl := hr.slA (m := N) (sz := 512) hpl (by omega)
 have hn3 : ∀ sz, za9 w none 0 sz [] := fun sz => ⟨by simp, by omega, fun h => absurd h (by simp)⟩
 refine ⟨_, ⟨none, 0, none, 0, none, 0, ⟨?_, ⟨?_, ?_, ?_⟩, ⟨hn3 _, by simp [zch], Nat.le_refl _⟩, ⟨hn3 _, by simp [zch], Nat.le_refl _⟩, ⟨hn3 _, by simp [zch], Nat.le_refl _⟩⟩, rfl⟩, fun b hb => ?_⟩
 ·unfold rfV; dsimp only; rw [hl]; exact hq
 ·dsimp only; rw [hl]; exact hsl
 ·dsimp only; rw [hl, zdm]
  rintro ⟨_, a, e, e2⟩
  cases e; exact hne e2.symm
 ·dsimp only; rw [hl]; exact Nat.le_refl _
 ·simp only [List.mem_cons, List.mem_append, zdm] at hb
  rcases hb with rfl | ((⟨_, a, e, e2⟩ | ⟨h1, _⟩) | ⟨h1, _⟩) | ⟨h1, _⟩
  ·exact .inl rfl
  ·cases e; exact .inr e2.symm
  ·exact absurd h1 (by simp)
  ·exact absurd h1 (by simp)
  ·exact absurd h1 (by simp)
theorem zlh {P : Pl} {V : Nat → Pg} {T : List (Nat × Rec)} {R : Rf} {B : Nat} (h : PlJ P V T) (r : RpI R P V) (hN : P.n ≤ 80) (hs : P.G.size ≤ 400) (hdi : R.di.length ≤ B) (hB : B ≤ 900000) (hll : (R.cl.length : Int) ≤ R.fr) (hf : 2 ≤ R.fr) (hfm : R.fr ≤ 1000) (h0 : 0 ≤ R.rm) (hrs : R.rm ≤ R.sz) : zps R B := by
 obtain ⟨r1, r2, _⟩ := zgw h.ok
 exact ⟨by rw [r.vs]; exact zhY h.ln, by rw [r.vs, zds]; omega, by rw [r.ch]; exact r1, by rw [r.ch]; omega, hdi, hB, hll, hf, hfm, h0, hrs, by rw [r.sz]; omega⟩
theorem zoq {P : Pl} {n : Int} (h : rdE P n = 0) : ∃ k : Nat, n = k ∧ k < P.n := by
 unfold rdE at h
 split at h
 ·rename_i hn
  unfold inP at hn
  exact ⟨n.toNat, by omega, by omega⟩
 ·exact absurd h (by decide)
theorem zor (P : Pl) (n : Int) : rdE P n ≠ 10 := by unfold rdE; split <;> decide
theorem pP_no {P : Pl} {n : Int} (h : ¬ rdE P n = 0) (X : Pg) : pP P n X = P := by
 unfold pP
 rw [if_neg fun hn => h (by unfold rdE; rw [if_pos hn])]
theorem zeF (P : Pl) (n : Int) : (gP P n).D = P.D ∧ (gP P n).G = P.G ∧ (gP P n).ch = P.ch ∧ (gP P n).n = P.n := by
 unfold gP zg1
 split
 ·split
  ·exact ⟨rfl, rfl, rfl, rfl⟩
  ·obtain ⟨h1, h2, h3, h4, h5, h6, h7⟩ := zc0 P n.toNat
   exact ⟨h1, h2, h4, h7⟩
 ·exact ⟨rfl, rfl, rfl, rfl⟩
theorem pP_same (P : Pl) (n : Int) (X : Pg) : (pP P n X).D = P.D ∧ (pP P n X).G = P.G ∧ (pP P n X).n = P.n := by
 unfold pP
 split
 ·obtain ⟨h1, h2, h3, h4, h5, h6, h7⟩ := zc0 P n.toNat
  exact ⟨h1, h2, h7⟩
 ·exact ⟨rfl, rfl, rfl⟩
theorem zjs {P Q : Pl} (h : Q.ch = P.ch) (hn : Q.n = P.n) : zaU Q = zaU P := by unfold zaU; rw [h, hn]
section
variable {g x q mc md gR lo n N m cb k c1 : Nat} {cv : Value} {L : List Nat} {P : Pl} {V : Nat → Pg} {T : List (Nat × Rec)} {R : Rf} {p1 : Option Addr} {w : World}
structure LvJ (n N m cb k : Nat) (P : Pl) (V : Nat → Pg) (T : List (Nat × Rec)) (R : Rf) : Prop where
 j : PlJ P V T
 r : RpI R P V
 ok : zps R (k * 100)
 pn : P.n = N
 ps : P.G.size = n
 pc : P.G.count ≤ cb
 pm : P.D.V.length = m
 n4 : 4 ≤ n
 nm : n ≤ 400
 Nm : N ≤ 80
 km : k ≤ 1000
 cm : cb ≤ 4611686018427387000
namespace LvJ
theorem vl (h : LvJ n N m cb k P V T R) : R.vs.length = N := by rw [h.r.vs, h.pn, zds]
theorem vs (h : LvJ n N m cb k P V T R) {i : Nat} (hi : i < P.n) : R.vs[i]? = some (V i) := by rw [h.r.vs]; exact zfO hi
theorem up (h : LvJ n N m cb k P V T R) {cb' k' : Nat} (hc : cb ≤ cb') (hk : k ≤ k') (hcm : cb' ≤ 4611686018427387000) (hkm : k' ≤ 1000) : LvJ n N m cb' k' P V T R :=
 ⟨h.j, h.r, ⟨h.ok.vs, h.ok.vl, h.ok.ch, h.ok.cl, Nat.le_trans h.ok.di (Nat.mul_le_mul_right _ hk), by omega, h.ok.ll, h.ok.fr, h.ok.fm, h.ok.rm, h.ok.rs, h.ok.sm⟩, h.pn, h.ps, Nat.le_trans h.pc hc, h.pm, h.n4, h.nm, h.Nm, hkm, hcm⟩
theorem get (h : LvJ n N m cb k P V T R) (a : Int) : LvJ n N m cb k (gP P a) V T R := by
 obtain ⟨h1, h2, h3, h4⟩ := zeF P a
 exact ⟨h.j.gP a, ⟨by rw [h4]; exact h.r.vs, h.r.ch.trans (zjs h3 h4).symm, by rw [h2]; exact h.r.sz⟩, h.ok, h4.trans h.pn, by rw [h2]; exact h.ps, by rw [h2]; exact h.pc, by rw [h1]; exact h.pm, h.n4, h.nm, h.Nm, h.km, h.cm⟩
theorem put (h : LvJ n N m cb k P V T R) {a : Int} {b : Nat} (ha : a = b) (hb : b < P.n) {X : Pg} (hX : X.length = 512) {cl' : List Int} (hcl : (cl'.length : Int) ≤ R.fr) : LvJ n N m cb k (pP P a X) V T { R with cl := cl', ch := zfv a X (decide (X = V b)) R.ch } := by
 obtain ⟨h1, h2, h4⟩ := pP_same P a X
 have hj := h.j.pP a hX
 have hr : RpI { R with cl := cl', ch := zfv a X (decide (X = V b)) R.ch } (pP P a X) V := by
  refine ⟨by rw [h4]; exact h.r.vs, ?_, by rw [h2]; exact h.r.sz⟩
  show zfv _ _ _ R.ch = _
  rw [h.r.ch, ha, ins_put (h.j.ask hb) hb]
  unfold pP
  rw [if_pos (by unfold inP; omega), Int.toNat_natCast]
 have hNm := h.Nm
 have hn := h.pn
 have hk := h.km
 exact ⟨hj, hr, zlh hj hr (by rw [h4]; omega) (by rw [h2, h.ps]; exact h.nm) h.ok.di h.ok.bb hcl h.ok.fr h.ok.fm h.ok.rm h.ok.rs, h4.trans h.pn, by rw [h2]; exact h.ps, by rw [h2]; exact h.pc, by rw [h1]; exact h.pm, h.n4, h.nm, h.Nm, h.km, h.cm⟩
theorem abort (h : LvJ n N m cb k P V T R) : LvJ n N m cb k { P with ch := noP } V T { R with ch := [] } := by
 have hj : PlJ { P with ch := noP } V T := h.j.zfK noP fun i b h => nomatch h
 exact ⟨hj, ⟨h.r.vs, zlg.symm, h.r.sz⟩, ⟨h.ok.vs, h.ok.vl, (fun c hc => nomatch hc), Nat.zero_le _, h.ok.di, h.ok.bb, h.ok.ll, h.ok.fr, h.ok.fm, h.ok.rm, h.ok.rs, h.ok.sm⟩, h.pn, h.ps, h.pc, h.pm, h.n4, h.nm, h.Nm, h.km, h.cm⟩
theorem num (h : LvJ n N m cb k P V T R) : ∀ c ∈ R.ch, ∃ m : Nat, c.num = m ∧ m < R.vs.length := fun c hc => by
 rw [h.r.ch] at hc
 obtain ⟨i, h1, h2, _⟩ := (zgw h.j.ok).2.2 c hc
 exact ⟨i, h1, by rw [h.vl, ← h.pn]; exact h2⟩
theorem code (h : LvJ n N m cb k P V T R) : zkx R = zmL P := comC_E h.r
theorem commit (h : LvJ n N m cb k P V T R) {R' : Rf} (hR : ComR R R') (hT : ∃ T', PlJ (zaC P).2 (zcv P V) T') (h1 : (zaC P).1 = zmL P) (h2 : (zaC P).2.G.count ≤ P.G.count + 1) (h3 : (zaC P).2.n = P.n) (h4 : (zaC P).2.G.size = P.G.size) (h5 : zaU (zaC P).2 = if (zaC P).1 = 0 then [] else zaU P) (h6 : (zaC P).2.D.V.length = P.D.V.length) (hc : cb < 4611686018427387000) (hk : k < 1000) :
  ∃ T', LvJ n N m (cb + 1) (k + 1) (zaC P).2 (zcv P V) T' R' := by
 obtain ⟨T', hj⟩ := hT
 have hE : zkx R = (zaC P).1 := h.code.trans h1.symm
 have hr : RpI R' (zaC P).2 (zcv P V) := by
  refine ⟨?_, ?_, by rw [h4, hR.sz]; exact h.r.sz⟩
  ·rw [hR.vs, hE, h3]
   unfold zcv
   split
   ·rw [h.r.vs, h.r.ch]; exact zl6 P V
   ·exact h.r.vs
  ·rw [hR.ch, hE, h5]
   split
   ·rfl
   ·exact h.r.ch
 have hNm := h.Nm
 have hn := h.pn
 have hc1 := h.pc
 have hrl : R.ch.length ≤ P.n := by rw [h.r.ch]; exact (zgw h.j.ok).2.1
 have hd := hR.di
 have hd0 := h.ok.di
 have hcl := hR.cl
 have hll := h.ok.ll
 exact ⟨T', hj, hr, zlh hj hr (by rw [h3]; omega) (by rw [h4, h.ps]; exact h.nm) (by omega) (by omega) (by rw [hR.fr]; omega) (by rw [hR.fr]; exact h.ok.fr) (by rw [hR.fr]; exact h.ok.fm) hR.r0 hR.rs, h3.trans h.pn, h4.trans h.ps, by omega, h6.trans h.pm, h.n4, h.nm, h.Nm, by omega, by omega⟩
theorem check (h : LvJ n N m cb k P V T R) (hT : ∃ T', PlJ (zbk P).2 V T') (h2 : (zbk P).2.G.count ≤ P.G.count + 1) (h3 : (zbk P).2.n = P.n) (h4 : (zbk P).2.G.size = P.G.size) (h5 : (zbk P).2.ch = P.ch) (h6 : (zbk P).2.D.V.length = P.D.V.length) (hc : cb < 4611686018427387000) : ∃ T', LvJ n N m (cb + 1) k (zbk P).2 V T' R ∧ LvJ n N m (cb + 1) k (zbk P).2 V T' { R with di := [], rm := R.sz } := by
 obtain ⟨T', hj⟩ := hT
 have hr : RpI R (zbk P).2 V := ⟨by rw [h3]; exact h.r.vs, h.r.ch.trans (zjs h5 h3).symm, by rw [h4]; exact h.r.sz⟩
 have hc1 := h.pc
 refine ⟨T', ⟨hj, hr, h.ok, h3.trans h.pn, h4.trans h.ps, by omega, h6.trans h.pm, h.n4, h.nm, h.Nm, h.km, by omega⟩, ⟨hj, ⟨hr.vs, hr.ch, hr.sz⟩, ⟨h.ok.vs, h.ok.vl, h.ok.ch, h.ok.cl, Nat.zero_le _, h.ok.bb, h.ok.ll, h.ok.fr, h.ok.fm, Int.le_trans h.ok.rm h.ok.rs, Int.le_refl _, h.ok.sm⟩, h3.trans h.pn, h4.trans h.ps, by omega, h6.trans h.pm, h.n4, h.nm, h.Nm, h.km, by omega⟩⟩
end LvJ
end
theorem zmO (P : Pl) : (zbk P).2.D.V.length = P.D.V.length := by
 unfold zbk
 split
 ·exact (zcc P).1
 ·rfl
theorem zhZ (P : Pl) : (zaC P).2.D.V.length = P.D.V.length ∧ (zaC P).2.G.size = P.G.size := by
 have hr : (zbi P).2.D.V.length = P.D.V.length ∧ (zbi P).2.G.size = P.G.size := by
  unfold zbi
  split
  ·exact ⟨(zcc P).1, (zcc P).2.1⟩
  ·exact ⟨rfl, rfl⟩
 have hp : (zb7 (zbi P).2 (zaU P)).D.V.length = P.D.V.length ∧ (zb7 (zbi P).2 (zaU P)).G.size = P.G.size := by
  obtain ⟨c1, c2⟩ := zdk (zbi P).2.D (zbi P).2.G (zaU P)
  exact ⟨c1.trans hr.1, c2.trans hr.2⟩
 unfold zaC
 split
 ·exact ⟨rfl, rfl⟩
 ·split
  ·exact ⟨rfl, rfl⟩
  ·split
   ·exact ⟨rfl, rfl⟩
   ·split
    ·split
     ·obtain ⟨d1, d2, _⟩ := zcn (zaU P) (zb7 (zbi P).2 (zaU P))
      show (za5 _ _).D.V.length = _ ∧ (za5 _ _).G.size = _
      rw [d1, d2]; exact hp
     ·exact hp
    ·exact hr
theorem PlJ.ln2 {P : Pl} {V : Nat → Pg} {T : List (Nat × Rec)} (h : PlJ P V T) {N : Nat} (hN : P.n = N) : ∀ i, i < N → (V i).length = 512 := fun i hi => h.ln i (by rw [hN]; exact hi)
theorem view_ln {P : Pl} {V : Nat → Pg} {T : List (Nat × Rec)} (h : PlJ P V T) {N : Nat} (hN : P.n = N) : ∀ i, i < N → (zcl P V i).length = 512 := fun i hi => by
 unfold zcl
 rw [if_pos (by rw [hN]; exact hi)]
 cases hc : P.ch i with
 | none => exact h.ln2 hN i hi
 | some b => exact h.ok.ch i b hc
theorem zos {V W : Nat → Pg} {N : Nat} {S1 S2 : List Pg} (h1 : S1 = pgL V N) (h2 : S2 = pgL W N) (hV : ∀ i, i < N → (V i).length = 512) (hW : ∀ i, i < N → (W i).length = 512) : ∀ S ∈ [S1, S2], ∃ W, S = pgL W N ∧ ∀ i, i < N → (W i).length = 512 := fun S hS => by
 rcases List.mem_cons.1 hS with rfl | hS
 ·exact ⟨V, h1, hV⟩
 ·rw [List.mem_singleton.1 hS]; exact ⟨W, h2, hW⟩
set_option maxRecDepth 20000 in
set_option maxHeartbeats 4000000 in
theorem live30 {g : Nat} {L : List Nat} {D : Dk} {w w0 : World} {n N c fr lo : Nat} {V : Nat → Pg} (hlo : w0.heap.size = lo) (h : Two (DZ g D) None lo L w) (hr : zfm D n N c V) (hd : D.dead = false) (hN : zfr D.V.length (n : Int) = N) (hN4 : 4 ≤ N) (hN8 : N ≤ 80) (h4 : 4 ≤ n) (hn : n ≤ 400) (hcb : c + 1000 ≤ 4611686018427387000) (h2 : 2 ≤ fr) (hm : fr ≤ 100)
   (p : Option Addr) (m cp : Nat) (R : List zko) (hR : zdv (PsQ w0) w0 4 p m R) (hB0 : Below w0.heap.size w0 w) (hfew : fewP R 15) (qs : Option Addr) (cs : Nat) (hS : zgR lo L w qs (pgL V N)) (hcs : N ≤ cs) (hV : ∀ i, i < N → (V i).length = 512) :
   Calls Tryz.prog 30 [.pointer (some ⟨g, 0, none⟩), .int .i64 (n : Int), .int .i64 (fr : Int), .slice p m cp, .slice qs N cs].toArray w (Ret fun v w' => zpz g lo n N (c + 20) D.V.length w v w') := by
 have hml : maxLen = 9223372036854775807 := by decide
 have hm15 := hfew.1
 have hRl := hR.1
 have hLL := LoL.refl lo [] w
 have hop := openJ h hr hd hN hN4 (by omega) (by omega) h2 hm hV
 have hvl := zds V N
 have hvok := zhY hV
 have hSl := zd3 hvok
 rw [hvl] at hSl
 obtain ⟨mD, hmD⟩ : ∃ mD, D.V.length = mD := ⟨_, rfl⟩
 have hop2 : Calls Tryz.prog 18 [.pointer (some ⟨g, 0, none⟩), .int .i64 (n : Int), .int .i64 (fr : Int)].toArray w (Ret fun v w' => OpenJ g lo L D n N c fr V w v w') := hop.to fun v w' hh => hh.1
 unfold OpenJ at hop2
 rw [hmD] at hop2 ⊢
 clear hop
 refine zaw (fn := Tryz.f30) (rs := [.tmp 10, .tmp 11]) (n := 171) Tryz.func30 rfl rfl Tryz.ntmps30 (by kernel_rfl) rfl ?_
 refine zak (zac (zaa rfl (zad) (zaa rfl (zad) (zaf (zai (zak (zac (zaa rfl (zab) (zaa rfl (zab) (zaa rfl (zab) ?_))))))))))
 refine zat rfl (zao (by kernel_rfl) rfl) (hop2) ?_
 rintro _ w25 ⟨vq, e, rfl, hb25, hcase⟩
 replace hLL := hLL.lq hb25
 replace hS := hS.ll hb25 (by first | (intro b hb; exact hb) | (intro b hb; simp [hb]; done) | simp)
 refine zaa rfl (zab) (zaa rfl (zan rfl rfl) (zaa rfl (zan rfl rfl) (zaa rfl (zad) (zaa rfl (zad) (zaf (zai (zak (zak (zac (zaa rfl (zab) ?_))))))))))
 refine zaa rfl (zaW rfl rfl) ?_
 refine zaf (zai ?_)
 refine zaZ rfl (fun hne => ?_) (fun hne => ?_)
 ·
  refine zak ?_
  have hc10 := hcase.elim (fun h => h) fun h => absurd h.1 hne
  obtain ⟨he, D2, hdead, hl2, hcr, hD⟩ := hc10
  subst he
  refine zac (zaa rfl (zab) ?_)
  refine zaX rfl (zci (e := 63) (.slice qs N cs) ([.slice qs N cs]) ([Value.slice none 0 0]) 1 (by kernel_rfl) (by kernel_rfl) rfl rfl rfl ⟨by decide, by decide⟩ (fun g31 w31 hg31 hr31 hb31 => ?_))
  replace hLL := hLL.new hb31
  replace hS := hS.new hb31
  replace hD := hD.newc hb31 hg31 hr31.lt
  refine zaa rfl (zab) ?_
  refine zaa rfl (zbr rfl rfl) ?_
  refine zaa rfl (zab) ?_
  refine zjz 34 rfl (rfl) ?_
  refine zas rfl (zaa rfl (zab) (zas rfl ?_))
  refine zat rfl (zao (by kernel_rfl) rfl) (tDead hD) ?_
  rintro _ _ ⟨rfl, rfl⟩
  refine zaa rfl (zay rfl) (zaa rfl (zad) (zaa rfl (zad) (zaf (zai (zax (zaT ?_))))))
  refine zar [_, _] ⟨rfl, rfl, trivial⟩ ?_
  exact ⟨⟨some ⟨g31, 0, none⟩, [pgL V N], 1, D2, g31 :: L, by rw [hdead]; rfl, hD, zjr hr31 hvl.symm (hS.weak fun b hb => List.mem_cons_of_mem _ hb) (by omega) (List.mem_cons_self ..), by simp, (fun S hS => by rw [List.mem_singleton.1 hS]; exact ⟨V, rfl, hV⟩), hcr.imp (by omega) (fun W e => by rw [e]; simp), hl2⟩, hLL⟩
 ·
  have hcase2 := hcase.elim (fun h => absurd h.1 (fun e => hne (by rw [e]; decide))) fun h => h
  obtain ⟨he, q, x, mc, md, cv, P, T, hvq, hP, hj, hch, hdi, hPn, hPs, hPc, hPf, hPm⟩ := hcase2
  subst he hvq
  clear hcase hop2 h
  have hbg := zpA N (n : Int) (fr : Int) w25 (by omega) (by omega)
  have hP1 := hP
  have hB1 := Below.refl w25.heap.size w25
  have hPlo := hP.lo'
  have hobt := hS.at_.some (by rw [hvl]; omega)
  obtain ⟨g0, o0, hqs, _⟩ := hobt
  subst hqs
  refine zau (zai (zak (zac (zaa rfl (zab) ?_))))
  refine zaa rfl (zaA (e := 37) (sz := 512) (by kernel_rfl) rfl rfl) ?_
  refine zaa rfl (zab) (zaa rfl (zab) ?_)
  have hz1 := hLL.size
  refine zat rfl (zao (by kernel_rfl) rfl) (hbg) ?_
  rintro _ w42 ⟨⟨gR, gPg, t0, rfl, hqR, hqP, hgne, hgR, hgP⟩, hb42⟩
  replace hLL := hLL.new hb42
  replace hS := hS.new hb42
  replace hB1 := hB1.acc hb42
  refine zaa rfl (zad) (zaf (zai (zak (zac (zaa rfl (zab) (zaa rfl (zal rfl) (zaa rfl (zaj (off := 0) (by kernel_rfl) rfl) ?_)))))))
  refine zaa rfl (zam rfl (Ld.zbb hqR (by kernel_rfl) rfl)) ?_
  refine zaa rfl (zab) ?_
  have hsS := hS.at_
  have hgn0 : gPg ∉ ([] : List Nat) := by simp
  rw [hvl] at hsS
  refine zaX rfl (zpq (e := 37) (sz := 512) (by kernel_rfl) (by kernel_rfl) rfl rfl gPg 0 hqP (zeH (pgL V N)) (by rw [hSl]; exact (congrArg (· * 512) (Nat.min_self N)).symm) ⟨rfl, _, rfl, fun j v hv => by rw [Addr.add_lit]; exact hsS.cell j hv⟩ (by rw [zgf, List.length_replicate]; omega) (zl1 _) (fun w48 n48 hqP ho48 => ?_))
  replace hLL := hLL.oq ho48
  replace hqR := hqR.only ho48 (by omega)
  replace hB1 := ho48.below hB1 (by omega)
  have hspl : splice (zeH (List.replicate N zcM)) 0 (zeH (pgL V N)) = zeH (pgL V N) := by unfold splice; rw [zgf, List.take_zero, List.drop_of_length_le (by rw [List.length_replicate]; omega)]; simp
  rw [hspl] at hqP
  refine zaf (zai (zak (zak (zac (zaa rfl (zad) (zaf (zai (zaD ?_))))))))
  have hobt := zpB hqR hqP hV hgne (by omega)
  obtain ⟨B0, hRB, hRm⟩ := hobt
  have hT := hP1.addY hB1 hRB (fun b hb => by rcases hRm b hb with rfl | rfl; exact hgR; exact hgP)
  have hrp : RpI ⟨pgL V N, [], [], [], (fr : Int), (n : Int), (n : Int)⟩ P V := ⟨by rw [hPn], by rw [← zlg (P := P)]; exact zjs (Q := { P with ch := noP }) hch.symm rfl, by rw [hPs]⟩
  have hJ0 : LvJ n N mD (c + 2) 0 P V T ⟨pgL V N, [], [], [], (fr : Int), (n : Int), (n : Int)⟩ := ⟨hj, hrp, zlh hj hrp (by omega) (by omega) (Nat.zero_le _) (by omega) (by show ((0 : Nat) : Int) ≤ (fr : Int); omega) (by show (2 : Int) ≤ (fr : Int); omega) (by show (fr : Int) ≤ 1000; omega) (by show (0 : Int) ≤ (n : Int); omega) (Int.le_refl _), hPn, hPs, hPc, hPm, h4, hn, hN8, by omega, by omega⟩
  refine zbF (α := Nat) 0 (fun i => [(15, .int .i64 (i : Nat)), (3, .slice p m cp), (12, .pointer (some ⟨q, 0, none⟩)), (14, .pointer (some ⟨gR, 0, none⟩))])
    (fun i w' => i ≤ m ∧ (∃ cv P V T R p1 c1, zbc g x q mc md cv cv (RfP gR R p1 c1) lo L P w' ∧ LvJ n N mD (c + 2 + i) i P V T R) ∧ LoL lo [] w w') (fun i => m - i)
    ⟨rfl, rfl, rfl, rfl, rfl⟩ ⟨Nat.zero_le _, ⟨cv, P, V, T, _, _, _, hT, hJ0⟩, hLL⟩ ?_
  clear hT hLL hP1 hB1 hRB hqR hqP hP hj hch hdi hPn hPs hPc hPf hPm hrp hJ0 hsS hspl
  clear V hr hV hvl hvok hSl hS
  rintro i f wr ⟨hi, ⟨cv, P, V, T, R', p1, c1, hT, hJ⟩, hLL⟩
  refine zak (zak (zac (zaa rfl (zab) (zaa rfl (zab) ?_))))
  refine zaa rfl (zaA (e := 33) (sz := 4) (by kernel_rfl) rfl rfl) ?_
  refine zaa rfl (zbd rfl rfl) ?_
  refine zaf (zai ?_)
  refine zaZ rfl (fun hlt => ?_) (fun hlt => ?_)
  ·
   refine zau (zai (zak (zaD (zak ?_))))
   have hzw := hLL.size
   have hBel := zgm hB0 hLL (Nat.le_of_eq hlo)
   have hob1 := hR.get (i := i) (by omega)
   obtain ⟨a, hx⟩ := hob1
   have hob2 := hR.some (by omega)
   obtain ⟨gp, op, hgp, hgpl⟩ := hob2
   subst hgp
   have hle := hR.ldB (P := Tryz.prog) (t := 33) (by kernel_rfl) (by kernel_rfl) hx
   obtain ⟨cs2, hcs2, hcl, hce⟩ := hle
   obtain ⟨qa, ca, hcs2, hbs, wk, wn, wm⟩ := hcs2
   subst hcs2
   have hbl := hfew.2 a (List.mem_of_getElem? hx)
   have hXl : (ze3 a.b).length = 512 := zhH _
   refine zac (zaa rfl (zab) (zaa rfl (zab) ?_))
   refine zaa rfl (zaQ (e := 33) (sz := 4) (by kernel_rfl) rfl rfl (i) (by omega) (by omega)) ?_
   have hld58 := (hce wr hBel).1
   refine zaa rfl (zam rfl (hld58)) ?_
   refine zaX rfl (zaO ([Value.int .i64 0, Value.int .i64 0, Value.int .i64 0, Value.slice none 0 0]) (by kernel_rfl) (fun g16 w16 hg16 hr16 hb16 => ?_))
   replace hLL := hLL.new hb16
   replace hT := hT.newc hb16 hg16 hr16.lt
   refine za4 rfl (zav 4 ([.int .i64 a.kind, .int .i64 a.n, .int .i64 a.many, .slice qa a.b.length ca]) rfl rfl hr16 (by kernel_rfl) (by first | assumption | (simp; done) | (simp [zae, *]; done)) (by first | assumption | (simp; done) | (simp [zae, *]; done) | rfl) (by first | exact zaL _ | assumption | (simp [Value.oneCell']; done)) (fun w901 hr16 ho901 => ?_))
   replace hLL := hLL.oq ho901
   replace hT := hT.only ho901 (by first | (right; simp; done) | (left; omega))
   refine zaf (zai (zak (zac (zaa rfl (zad) (zaf (zai (zak (zac (zaa rfl (zab) (zaa rfl (zal rfl) (zaa rfl (zaj (off := 0) (by kernel_rfl) rfl) ?_)))))))))))
   have hobr := hT.rf
   obtain ⟨p2, c2, p3, c3, p4, c4, hrf⟩ := hobr
   refine zaa rfl (zam rfl (ld_pgh hrf)) ?_
   refine zaa rfl (zad) (zaf (zai ?_))
   refine zjy (fun e : Int => [(17, .int .i64 e), (15, .int .i64 (i : Nat)), (3, .slice (some ⟨gp, op, none⟩) m cp), (12, .pointer (some ⟨q, 0, none⟩)), (14, .pointer (some ⟨gR, 0, none⟩))]) (fun e w' => ((e ≠ 10 ∧ ∃ cv P V T R p1 c1, zbc g x q mc md cv cv (RfP gR R p1 c1) lo L P w' ∧ LvJ n N mD (c + 2 + (i + 1)) (i + 1) P V T R) ∨ (e = 10 ∧ ∃ cv P V R p1 c1, zbc g x q mc md cv cv (RfP gR R p1 c1) lo L P w' ∧ P.dead = true ∧ P.G.size = n ∧ P.D.V.length = mD ∧ R.vs = pgL V N ∧ (∀ i, i < N → (V i).length = 512) ∧ zdt P.D n N (c + 2 + (i + 1)) (· = V))) ∧ LoL lo [] w w') ?_ ?_
   ·
    refine zak (zac (zaa rfl (zaj (off := 0) (by kernel_rfl) rfl) ?_))
    refine zaa rfl (zam rfl (Ld.zbb hr16 (by kernel_rfl) rfl)) ?_
    refine zaf (zai (zaD (zak (zac ?_))))
    refine zaa rfl (zbr rfl rfl) ?_
    refine zaa rfl (zad) (zaf (zai ?_))
    refine zaZ rfl (fun k1 => ?_) (fun k1 => ?_)
    ·
     refine zac (zaa rfl (zab) (zaa rfl (zaj (off := 1) (by kernel_rfl) rfl) ?_))
     refine zaa rfl (zam rfl (Ld.zbb hr16 (by kernel_rfl) rfl)) ?_
     refine zat rfl (zao (by kernel_rfl) rfl) (jGet hT hJ.j a.n) ?_
     rintro _ w71 ⟨rfl, ⟨cv2, hT⟩, hb71⟩
     replace hLL := hLL.lq hb71
     replace hr16 := hr16.kl hb71
     refine zaa rfl (zab) (zaa rfl (zan rfl rfl) (zaa rfl (zan rfl rfl) (zaa rfl (zad) (zaf (za2 ?_)))))
     exact zbq ⟨rdE P a.n, ⟨rfl, rfl, rfl, rfl, rfl, rfl⟩, .inl ⟨zor _ _, cv2, gP P a.n, V, T, R', p1, c1, hT.weak (fun b hb => List.mem_cons_of_mem _ hb), (hJ.get a.n).up (by omega) (by omega) (by omega) (by omega)⟩, hLL⟩
    ·
     refine zak (zac ?_)
     refine zaa rfl (zbr rfl rfl) ?_
     refine zaa rfl (zad) (zaf (zai ?_))
     refine zaZ rfl (fun k2 => ?_) (fun k2 => ?_)
     ·
      refine zak ?_
      refine zeZ (lo) ((g16 :: L)) (by kernel_rfl) ?_
      intro w902 hb902 hn902 hS902
      replace hLL := hLL.new hb902
      replace hT := hT.new hb902
      replace hr16 := hr16.new hb902
      have hLL_d902 := hLL
      have hT_d902 := hT
      have hr16_d902 := hr16
      refine zah 0 (by kernel_rfl) rfl (fun _ _ => zab) ?_
      refine zah 1 (by kernel_rfl) rfl (fun _ _ => zaj (off := 1) (by kernel_rfl) rfl) ?_
      refine zah 2 (by kernel_rfl) rfl (fun w' hS' => zam rfl (Ld.zbb (hr16_d902.kL hS') (by kernel_rfl) rfl)) ?_
      refine zah 3 (by kernel_rfl) rfl (fun _ _ => zaj (off := 3) (by kernel_rfl) rfl) ?_
      refine zah 4 (by kernel_rfl) rfl (fun w' hS' => zam rfl (Ld.zbb (hr16_d902.kL hS') (by kernel_rfl) rfl)) ?_
      refine zaS 5 (by kernel_rfl) ?_
      have hb1 := hbs.below (zgm hB0 hLL (Nat.le_of_eq hlo)) (Nat.le_refl _)
      refine zcq rfl rfl (zao (by kernel_rfl) rfl) (zkh a.b qa a.b.length ca w902 hb1) ?_
      rintro _ w81 ⟨rfl, hb81⟩
      have hS903 := hS902.add0 hb81
      refine ⟨hS903, ?_⟩
      replace hLL := hLL.new hb81
      replace hT := hT.new hb81
      replace hr16 := hr16.new hb81
      refine zaS 6 (by kernel_rfl) ?_
      refine zcq rfl rfl (zao (by kernel_rfl) rfl) (jPut hT hJ.j a.n hXl) ?_
      rintro _ w82 ⟨rfl, ⟨cv2, hT⟩, hb82⟩
      have hS904 := hS903.zjK hn902 hb82
      refine ⟨hS904, ?_⟩
      replace hLL := hLL.lq hb82
      replace hr16 := hr16.kl hb82
      refine zah 7 (by kernel_rfl) rfl (fun _ _ => zad) ?_
      refine zaR (by kernel_rfl) ?_
      refine zai (zak (zac (zaa rfl (zab) ?_)))
      refine zaa rfl (zbr rfl rfl) ?_
      refine zaf (zai ?_)
      refine zaZ rfl (fun he0 => ?_) (fun he0 => ?_)
      ·
       have hob3 := zoq he0
       obtain ⟨b, hab, hbn⟩ := hob3
       refine zeZ (lo) ((g16 :: L)) (by kernel_rfl) ?_
       intro w905 hb905 hn905 hS905
       replace hLL := hLL.new hb905
       replace hT := hT.new hb905
       replace hr16 := hr16.new hb905
       have hLL_d905 := hLL
       have hT_d905 := hT
       have hr16_d905 := hr16
       refine zah 0 (by kernel_rfl) rfl (fun _ _ => zab) ?_
       refine zah 1 (by kernel_rfl) rfl (fun _ _ => zaj (off := 1) (by kernel_rfl) rfl) ?_
       refine zah 2 (by kernel_rfl) rfl (fun w' hS' => zam rfl (Ld.zbb (hr16_d905.kL hS') (by kernel_rfl) rfl)) ?_
       refine zah 3 (by kernel_rfl) rfl (fun _ _ => zaj (off := 3) (by kernel_rfl) rfl) ?_
       refine zah 4 (by kernel_rfl) rfl (fun w' hS' => zam rfl (Ld.zbb (hr16_d905.kL hS') (by kernel_rfl) rfl)) ?_
       refine zaS 5 (by kernel_rfl) ?_
       have hb1 := hbs.below (zgm hB0 hLL (Nat.le_of_eq hlo)) (Nat.le_refl _)
       refine zcq rfl rfl (zao (by kernel_rfl) rfl) (zkh a.b qa a.b.length ca w905 hb1) ?_
       rintro _ w90 ⟨rfl, hb90⟩
       have hS906 := hS905.add0 hb90
       refine ⟨hS906, ?_⟩
       replace hLL := hLL.new hb90
       replace hT := hT.new hb90
       replace hr16 := hr16.new hb90
       refine zaS 6 (by kernel_rfl) ?_
       have hrp := rPut hT hJ.ok b (hJ.vs hbn) hXl
       rw [← hab] at hrp
       refine zcq rfl rfl (zao (by kernel_rfl) rfl) (hrp) ?_
       rintro _ w91 ⟨rfl, ⟨cl2, p12, c12, hcl2, hT⟩, hb91⟩
       have hS907 := hS906.zjK hn905 hb91
       refine ⟨hS907, ?_⟩
       replace hLL := hLL.lq hb91
       replace hr16 := hr16.kl hb91
       refine zaR (by kernel_rfl) ?_
       refine za2 ?_
       exact zbq ⟨rdE P a.n, ⟨rfl, rfl, rfl, rfl, rfl, rfl⟩, .inl ⟨zor _ _, cv2, pP P a.n (ze3 a.b), V, T, _, p12, c12, hT.weak (fun b hb => List.mem_cons_of_mem _ hb), (hJ.put hab hbn hXl hcl2).up (by omega) (by omega) (by omega) (by omega)⟩, hLL⟩
      ·
       refine zau (za2 ?_)
       rw [pP_no he0] at hT
       exact zbq ⟨rdE P a.n, ⟨rfl, rfl, rfl, rfl, rfl, rfl⟩, .inl ⟨zor _ _, cv2, P, V, T, R', p1, c1, hT.weak (fun b hb => List.mem_cons_of_mem _ hb), hJ.up (by omega) (by omega) (by omega) (by omega)⟩, hLL⟩
     ·
      refine zak (zac ?_)
      refine zaa rfl (zbr rfl rfl) ?_
      refine zaa rfl (zad) (zaf (zai ?_))
      refine zaZ rfl (fun k3 => ?_) (fun k3 => ?_)
      ·
       refine zak (zac (zaa rfl (zab) ?_))
       refine zat rfl (zao (by kernel_rfl) rfl) (jCommit hT hJ.j) ?_
       rintro _ w95 ⟨rfl, ⟨cv2, hT⟩, hb95⟩
       replace hLL := hLL.lq hb95
       replace hr16 := hr16.kl hb95
       refine zaa rfl (zad) (zaf (zai (zak (zac (zaa rfl (zab) ?_)))))
       refine zat rfl (zao (by kernel_rfl) rfl) (rCommit hT hJ.ok hJ.num) ?_
       rintro _ w97 ⟨rfl, ⟨R2, p12, c12, L2, hCR, hT, hD, hQ1, hc1, hQ2, hc2⟩, hb97⟩
       replace hLL := hLL.lq hb97
       replace hr16 := hr16.kl hb97
       refine zaa rfl (zad) (zaf (zai (zak (zak (zac (zaa rfl (zab) ?_))))))
       refine zaa rfl (zbr rfl rfl) ?_
       refine zaf (zai ?_)
       refine zaZ rfl (fun h10 => ?_) (fun h10 => ?_)
       ·
        refine zak ?_
        have hcm := hJ.j.commit (by have := hJ.pc; omega) (by rw [hJ.pn]; omega)
        have hcm2 : zmL P = 0 ∧ (zaC P).2.dead = true ∧ zdt (zaC P).2.D P.G.size P.n (P.G.count + 1) (fun W => W = V ∨ W = zcl P V) := by
          rcases hcm with ⟨e1, _⟩ | ⟨_, e2, _, e4, _, e6⟩
          · exfalso
            rw [h10] at e1
            unfold zmL at e1
            split at e1
            · cases e1
            · split at e1
              ·cases e1
              ·split at e1 <;> cases e1
          · exact ⟨e2, e4, e6⟩
        obtain ⟨hcC, hdd, hcr⟩ := hcm2
        rw [hJ.ps, hJ.pn] at hcr
        have hm1 : R'.vs = pgL V N := by rw [hJ.r.vs, hJ.pn]
        have hm2 : R2.vs = pgL (zcl P V) N := by rw [hCR.vs, if_pos (hJ.code.trans hcC), hJ.r.vs, hJ.r.ch, zl6, hJ.pn]
        have hcc := hJ.pc
        have hW1 := hJ.j.ln2 hJ.pn
        have hW2 := view_ln hJ.j hJ.pn
        have hobt := zhZ P
        obtain ⟨hcl1, hcl3⟩ := hobt
        rw [hJ.pm] at hcl1
        have hsz2 : (zaC P).2.G.size ≤ 4000 := by rw [hcl3, hJ.ps]; omega
        have hobr2 := hT.rf
        obtain ⟨p22, c22, p32, c32, p42, c42, hrf2⟩ := hobr2
        have hq := hrf2.row
        unfold rfV at hq
        generalize zaC P = CP at *
        refine zbg [] (by kernel_rfl) ?_
        intro w908 hb908 hS908
        replace hLL := hLL.new hb908
        replace hT := hT.new hb908
        replace hr16 := hr16.new hb908
        replace hD := hD.new hb908
        replace hQ1 := hQ1.new hb908
        replace hQ2 := hQ2.new hb908
        replace hq := hq.new hb908
        have hLL_d908 := hLL
        have hT_d908 := hT
        have hr16_d908 := hr16
        have hD_d908 := hD
        have hQ1_d908 := hQ1
        have hQ2_d908 := hQ2
        have hq_d908 := hq
        refine zah 0 (by kernel_rfl) rfl (fun _ _ => zab) ?_
        refine zah 1 (by kernel_rfl) rfl (fun _ _ => zab) ?_
        refine zah 2 (by kernel_rfl) rfl (fun _ _ => zal rfl) ?_
        refine zah 3 (by kernel_rfl) rfl (fun _ _ => zaj (off := 0) (by kernel_rfl) rfl) ?_
        refine zah 4 (by kernel_rfl) rfl (fun w' hS' => zam rfl (Ld.zbb (hq_d908.kq hS') (by kernel_rfl) rfl)) ?_
        refine zah 6 (by kernel_rfl) rfl (fun _ _ => zab) ?_
        refine zfT 5 7 (by kernel_rfl) ?_ ?_
        ·
         refine zbN rfl rfl (mk_two (e := 63) (.slice p1 R'.vs.length c1) (.slice p12 R2.vs.length c12) ([.slice p1 R'.vs.length c1]) ([.slice p12 R2.vs.length c12]) ([Value.slice none 0 0]) 1 (by kernel_rfl) (by kernel_rfl) rfl rfl rfl rfl (by first | rfl | (simp; done) | (simp [zae, *]; done)) (by first | rfl | (simp; done) | (simp [zae, *]; done)) ⟨by decide, by decide⟩ (fun g105 w105 hg105 hr105 hb105 => ?_))
         have hS909 := hS908.add0 hb105
         refine ⟨hS909, ?_⟩
         have ge_hS908_g105 := Nat.le_trans hS908.size hg105
         have lt_g16_g105 : g16 < g105 := Nat.lt_of_lt_of_le hr16.lt hg105
         have lt_gR_g105 : gR < g105 := Nat.lt_of_lt_of_le hq.lt hg105
         replace hLL := hLL.new hb105
         replace hT := hT.newc hb105 hg105 hr105.lt
         replace hr16 := hr16.new hb105
         replace hD := hD.newc hb105 hg105 hr105.lt
         replace hQ1 := hQ1.new hb105
         replace hQ2 := hQ2.new hb105
         replace hq := hq.new hb105
         refine zaS 7 (by kernel_rfl) ?_
         refine zcq rfl rfl (zao (by kernel_rfl) rfl) (zl7 hT hsz2 hdd) ?_
         rintro _ w107 ⟨rfl, hb107⟩
         have hS910 := hS909.add0 hb107
         refine ⟨hS910, ?_⟩
         replace hLL := hLL.new hb107
         replace hT := hT.new hb107
         replace hr16 := hr16.new hb107
         replace hD := hD.new hb107
         replace hQ1 := hQ1.new hb107
         replace hQ2 := hQ2.new hb107
         replace hq := hq.new hb107
         replace hr105 := hr105.new hb107
         refine zah 8 (by kernel_rfl) rfl (fun _ _ => zad) ?_
         refine zah 9 (by kernel_rfl) rfl (fun _ _ => zad) ?_
         refine zaR (by kernel_rfl) ?_
         refine zai (zax (zaT (za6 (zc6 (za6 (zaT (zc6 (za6 (zaT ?_)))))))))
         refine zar [_, _] ⟨rfl, rfl, trivial⟩ ?_
         exact ⟨⟨some ⟨g105, 0, none⟩, [R'.vs, R2.vs], 2, CP.2.D, g105 :: L2, rfl, hD, zoo hr105 rfl rfl (hQ1.weak fun b hb => List.mem_cons_of_mem _ hb) (hQ2.weak fun b hb => List.mem_cons_of_mem _ hb) hc1 hc2 (List.mem_cons_self ..), by simp, zos hm1 hm2 hW1 hW2, hcr.imp (by omega) (fun W e => by rcases e with rfl | rfl; rw [hm1]; simp; rw [hm2]; simp), hcl1⟩, hLL⟩
        ·
         refine zcq rfl rfl (zao (by kernel_rfl) rfl) (zl7 hT hsz2 hdd) ?_
         rintro _ w107 ⟨rfl, hb107⟩
         have hS911 := hS908.add0 hb107
         refine ⟨hS911, ?_⟩
         replace hLL := hLL.new hb107
         replace hT := hT.new hb107
         replace hr16 := hr16.new hb107
         replace hD := hD.new hb107
         replace hQ1 := hQ1.new hb107
         replace hQ2 := hQ2.new hb107
         replace hq := hq.new hb107
         refine zaS 5 (by kernel_rfl) ?_
         refine zbN rfl rfl (mk_two (e := 63) (.slice p1 R'.vs.length c1) (.slice p12 R2.vs.length c12) ([.slice p1 R'.vs.length c1]) ([.slice p12 R2.vs.length c12]) ([Value.slice none 0 0]) 1 (by kernel_rfl) (by kernel_rfl) rfl rfl rfl rfl (by first | rfl | (simp; done) | (simp [zae, *]; done)) (by first | rfl | (simp; done) | (simp [zae, *]; done)) ⟨by decide, by decide⟩ (fun g105 w105 hg105 hr105 hb105 => ?_))
         have hS912 := hS911.add0 hb105
         refine ⟨hS912, ?_⟩
         have ge_hS911_g105 := Nat.le_trans hS911.size hg105
         have lt_g16_g105 : g16 < g105 := Nat.lt_of_lt_of_le hr16.lt hg105
         have lt_gR_g105 : gR < g105 := Nat.lt_of_lt_of_le hq.lt hg105
         replace hLL := hLL.new hb105
         replace hT := hT.newc hb105 hg105 hr105.lt
         replace hr16 := hr16.new hb105
         replace hD := hD.newc hb105 hg105 hr105.lt
         replace hQ1 := hQ1.new hb105
         replace hQ2 := hQ2.new hb105
         replace hq := hq.new hb105
         refine zah 8 (by kernel_rfl) rfl (fun _ _ => zad) ?_
         refine zah 9 (by kernel_rfl) rfl (fun _ _ => zad) ?_
         refine zaR (by kernel_rfl) ?_
         refine zai (zax (zaT (za6 (zc6 (za6 (zaT (zc6 (za6 (zaT ?_)))))))))
         refine zar [_, _] ⟨rfl, rfl, trivial⟩ ?_
         exact ⟨⟨some ⟨g105, 0, none⟩, [R'.vs, R2.vs], 2, CP.2.D, g105 :: L2, rfl, hD, zoo hr105 rfl rfl (hQ1.weak fun b hb => List.mem_cons_of_mem _ hb) (hQ2.weak fun b hb => List.mem_cons_of_mem _ hb) hc1 hc2 (List.mem_cons_self ..), by simp, zos hm1 hm2 hW1 hW2, hcr.imp (by omega) (fun W e => by rcases e with rfl | rfl; rw [hm1]; simp; rw [hm2]; simp), hcl1⟩, hLL⟩
       ·
        have hcm := hJ.j.commit (by have := hJ.pc; omega) (by rw [hJ.pn]; omega)
        have hcm1 := hcm.elim (fun h => h) fun h => absurd h.1 h10
        obtain ⟨e1, e2, e3, e4, e5, e6⟩ := hcm1
        have hJ2 := hJ.commit hCR e2 e1 e3 e4 e5 e6 (zhZ P).1 (by omega) (by omega)
        obtain ⟨T2, hJ2⟩ := hJ2
        have hcode := hJ.code
        generalize zaC P = CP at *
        generalize zcv P V = V2 at *
        refine zau (zai (zak (zac (zaa rfl (zab) (zaa rfl (zab) ?_)))))
        refine zaa rfl (zaW rfl rfl) ?_
        refine zaf (zai ?_)
        refine zdT rfl ((fun hne => hne (e1.trans hcode.symm))) ?_
        refine zau (za2 ?_)
        exact zbq ⟨CP.1, ⟨rfl, rfl, rfl, rfl, rfl, rfl⟩, .inl ⟨h10, cv2, CP.2, V2, T2, R2, p12, c12, hT.weak (fun b hb => List.mem_cons_of_mem _ hb), hJ2.up (by omega) (by omega) (by omega) (by omega)⟩, hLL⟩
      ·
       refine zak (zac ?_)
       refine zaa rfl (zbr rfl rfl) ?_
       refine zaa rfl (zad) (zaf (zai ?_))
       refine zaZ rfl (fun k4 => ?_) (fun k4 => ?_)
       ·
        refine zak ?_
        have hch := hT.chNil
        obtain ⟨p22, c22, p32, c32, p42, c42, hq, hgl, hgn, hmk⟩ := hch
        have hgn0 : gR ∉ ([] : List Nat) := by simp
        have hgne2 : g16 ≠ gR := fun e => hgn (by rw [e]; simp)
        refine zac (zaa rfl (zab) (zaa rfl (zal rfl) (zaa rfl (zaj (off := 1) (by kernel_rfl) rfl) ?_)))
        refine za4 rfl (zaP rfl rfl rfl rfl hq (by kernel_rfl) (by first | (simp only [List.length_replicate]; omega) | (simp only [zaM]; omega) | (simp only [zae, List.length_set]; omega) | simp) (fun w913 hq ho913 => ?_))
        replace hLL := hLL.oq ho913
        replace hr16 := hr16.only ho913 (by omega)
        have hT2 := hmk _ hq ho913
        refine zaf (zai (zac (zaa rfl (zab) ?_)))
        refine zat rfl (zao (by kernel_rfl) rfl) (jAbort hT2 hJ.j) ?_
        rintro _ w117 ⟨rfl, hT2, hb117⟩
        replace hLL := hLL.lq hb117
        replace hr16 := hr16.kl hb117
        refine zaa rfl (zad) (zaf (za2 ?_))
        exact zbq ⟨0, ⟨rfl, rfl, rfl, rfl, rfl, rfl⟩, .inl ⟨by decide, cv, { P with ch := noP }, V, T, _, p1, c1, hT2.weak (fun b hb => List.mem_cons_of_mem _ hb), hJ.abort.up (by omega) (by omega) (by omega) (by omega)⟩, hLL⟩
       ·
        refine zak (zac ?_)
        refine zaa rfl (zbr rfl rfl) ?_
        refine zaa rfl (zad) (zaf (zai ?_))
        refine zaZ rfl (fun k5 => ?_) (fun k5 => ?_)
        ·
         refine zak (zac (zaa rfl (zab) ?_))
         refine zat rfl (zao (by kernel_rfl) rfl) (jCheck hT hJ.j) ?_
         rintro _ w121 ⟨rfl, hT, hb121⟩
         replace hLL := hLL.lq hb121
         replace hr16 := hr16.kl hb121
         have hcm := hJ.j.check (by have := hJ.pc; omega) (by rw [hJ.pn]; omega)
         have hlen := zmO P
         refine zaa rfl (zad) (zaf (zai (zak (zac (zaa rfl (zab) ?_)))))
         refine zaa rfl (zbr rfl rfl) ?_
         refine zaf (zai ?_)
         refine zaZ rfl (fun he0 => ?_) (fun he0 => ?_)
         ·
          refine zac (zaa rfl (zab) ?_)
          refine zat rfl (zao (by kernel_rfl) rfl) (rSettle hT hJ.ok) ?_
          rintro _ w125 ⟨rfl, ⟨p12, c12, hT⟩, hb125⟩
          replace hLL := hLL.lq hb125
          replace hr16 := hr16.kl hb125
          refine zaf (za2 ?_)
          have hcm1 := hcm.elim (fun h => h) fun h => absurd (h.1.symm.trans he0) (by decide)
          obtain ⟨e1, e2, e3, e4, e5, e6⟩ := hcm1
          have hJ2 := hJ.check e2 e3 e4 e5 e6 hlen (by omega)
          obtain ⟨T2, _, hJ2⟩ := hJ2
          exact zbq ⟨(zbk P).1, ⟨rfl, rfl, rfl, rfl, rfl, rfl⟩, .inl ⟨e1, cv, (zbk P).2, V, T2, _, p12, c12, hT.weak (fun b hb => List.mem_cons_of_mem _ hb), hJ2.up (by omega) (by omega) (by omega) (by omega)⟩, hLL⟩
         ·
          refine zau (za2 ?_)
          rcases hcm with hcm | hcm
          · obtain ⟨e1, e2, e3, e4, e5, e6⟩ := hcm
            have hJ2 := hJ.check e2 e3 e4 e5 e6 hlen (by omega)
            obtain ⟨T2, hJ2, _⟩ := hJ2
            exact zbq ⟨(zbk P).1, ⟨rfl, rfl, rfl, rfl, rfl, rfl⟩, .inl ⟨e1, cv, (zbk P).2, V, T2, _, p1, c1, hT.weak (fun b hb => List.mem_cons_of_mem _ hb), hJ2.up (by omega) (by omega) (by omega) (by omega)⟩, hLL⟩
          · obtain ⟨e1, e2, e3, e4, e5⟩ := hcm
            have hcc := hJ.pc
            rw [hJ.ps, hJ.pn] at e5
            exact zbq ⟨(zbk P).1, ⟨rfl, rfl, rfl, rfl, rfl, rfl⟩, .inr ⟨e1, cv, (zbk P).2, V, _, p1, c1, hT.weak (fun b hb => List.mem_cons_of_mem _ hb), e3, e4.trans hJ.ps, hlen.trans hJ.pm, by rw [hJ.r.vs, hJ.pn], hJ.j.ln2 hJ.pn, e5.imp (by omega) fun _ h => h⟩, hLL⟩
        ·
         refine zak (zac ?_)
         refine zaa rfl (zbr rfl rfl) ?_
         refine zaa rfl (zad) (zaf (zai ?_))
         refine zaZ rfl (fun k7 => ?_) (fun k7 => ?_)
         ·
          refine zak (zac (zaa rfl (zad) (zaf (zai (zaD ?_)))))
          have hzr : g16 < w901.heap.size := hr16.lt
          refine zbF (α := Nat) 0 (fun k => [(20, .int .i64 (k : Nat)), (17, .int .i64 0), (16, .pointer (some ⟨g16, 0, none⟩)), (15, .int .i64 (i : Nat)), (3, .slice (some ⟨gp, op, none⟩) m cp), (12, .pointer (some ⟨q, 0, none⟩)), (14, .pointer (some ⟨gR, 0, none⟩))])
            (fun k w' => k ≤ 80 ∧ (∃ cv P R p1 c1, zbc g x q mc md cv cv (RfP gR R p1 c1) lo (g16 :: L) P w' ∧ LvJ n N mD (c + 2 + i) i P V T R) ∧ row w' g16 [.int .i64 a.kind, .int .i64 a.n, .int .i64 a.many, .slice qa a.b.length ca] 33 ∧ LoL lo [] w w') (fun k => 80 - k)
            ⟨rfl, rfl, rfl, rfl, rfl, rfl, rfl, rfl⟩ ⟨Nat.zero_le _, ⟨cv, P, R', p1, c1, hT, hJ⟩, hr16, hLL⟩ ?_
          clear hT hJ hr16 hLL hrf
          rintro k f wk ⟨hk, ⟨cv, P, R', p1, c1, hT, hJ⟩, hr16, hLL⟩
          refine zak (zak (zac (zaa rfl (zab) (zaa rfl (zaj (off := 2) (by kernel_rfl) rfl) ?_))))
          refine zaa rfl (zam rfl (Ld.zbb hr16 (by kernel_rfl) rfl)) ?_
          refine zaa rfl (zbd rfl rfl) ?_
          refine zaa rfl (zab) ?_
          refine zbJ 132 rfl (fun hka => ?_) (fun hka => ?_)
          ·
           refine zas rfl (zaa rfl (zab) (zas rfl ?_))
           refine zaa rfl (zbd rfl rfl) ?_
           refine zaa rfl (zay rfl) (zaf (zai ?_))
           refine zaZ rfl (fun hk80 => ?_) (fun hk80 => ?_)
           ·
            refine zau (zai (zak (zaD (zak ?_))))
            have hobw : ∃ nw, IntKind.i64.wrap (a.n + ((k : Nat) : Int)) = nw := ⟨_, rfl⟩
            obtain ⟨nw, hnw⟩ := hobw
            refine zeZ (lo) ((g16 :: L)) (by kernel_rfl) ?_
            intro w914 hb914 hn914 hS914
            replace hLL := hLL.new hb914
            replace hT := hT.new hb914
            replace hr16 := hr16.new hb914
            have hLL_d914 := hLL
            have hT_d914 := hT
            have hr16_d914 := hr16
            refine zah 0 (by kernel_rfl) rfl (fun _ _ => zab) ?_
            refine zah 1 (by kernel_rfl) rfl (fun _ _ => zaj (off := 1) (by kernel_rfl) rfl) ?_
            refine zah 2 (by kernel_rfl) rfl (fun w' hS' => zam rfl (Ld.zbb (hr16_d914.kL hS') (by kernel_rfl) rfl)) ?_
            refine zah 3 (by kernel_rfl) rfl (fun _ _ => zab) ?_
            refine zah 4 (by kernel_rfl) rfl (fun _ _ => zaV rfl rfl hnw) ?_
            refine zah 5 (by kernel_rfl) rfl (fun _ _ => zaj (off := 3) (by kernel_rfl) rfl) ?_
            refine zah 6 (by kernel_rfl) rfl (fun w' hS' => zam rfl (Ld.zbb (hr16_d914.kL hS') (by kernel_rfl) rfl)) ?_
            refine zaS 7 (by kernel_rfl) ?_
            have hb1 := hbs.below (zgm hB0 hLL (Nat.le_of_eq hlo)) (Nat.le_refl _)
            refine zcq rfl rfl (zao (by kernel_rfl) rfl) (zkh a.b qa a.b.length ca w914 hb1) ?_
            rintro _ w145 ⟨rfl, hb145⟩
            have hS915 := hS914.add0 hb145
            refine ⟨hS915, ?_⟩
            replace hLL := hLL.new hb145
            replace hT := hT.new hb145
            replace hr16 := hr16.new hb145
            refine zaS 8 (by kernel_rfl) ?_
            refine zcq rfl rfl (zao (by kernel_rfl) rfl) (jPut hT hJ.j nw hXl) ?_
            rintro _ w146 ⟨rfl, ⟨cv2, hT⟩, hb146⟩
            have hS916 := hS915.zjK hn914 hb146
            refine ⟨hS916, ?_⟩
            replace hLL := hLL.lq hb146
            replace hr16 := hr16.kl hb146
            refine zah 9 (by kernel_rfl) rfl (fun _ _ => zbr rfl rfl) ?_
            refine zaR (by kernel_rfl) ?_
            refine zai ?_
            refine zaZ rfl (fun he0 => ?_) (fun he0 => ?_)
            ·
             have hob3 := zoq he0
             obtain ⟨b, hab, hbn⟩ := hob3
             refine zeZ (lo) ((g16 :: L)) (by kernel_rfl) ?_
             intro w917 hb917 hn917 hS917
             replace hLL := hLL.new hb917
             replace hT := hT.new hb917
             replace hr16 := hr16.new hb917
             have hLL_d917 := hLL
             have hT_d917 := hT
             have hr16_d917 := hr16
             refine zah 0 (by kernel_rfl) rfl (fun _ _ => zab) ?_
             refine zah 1 (by kernel_rfl) rfl (fun _ _ => zaj (off := 1) (by kernel_rfl) rfl) ?_
             refine zah 2 (by kernel_rfl) rfl (fun w' hS' => zam rfl (Ld.zbb (hr16_d917.kL hS') (by kernel_rfl) rfl)) ?_
             refine zah 3 (by kernel_rfl) rfl (fun _ _ => zab) ?_
             refine zah 4 (by kernel_rfl) rfl (fun _ _ => zaV rfl rfl hnw) ?_
             refine zah 5 (by kernel_rfl) rfl (fun _ _ => zaj (off := 3) (by kernel_rfl) rfl) ?_
             refine zah 6 (by kernel_rfl) rfl (fun w' hS' => zam rfl (Ld.zbb (hr16_d917.kL hS') (by kernel_rfl) rfl)) ?_
             refine zaS 7 (by kernel_rfl) ?_
             have hb1 := hbs.below (zgm hB0 hLL (Nat.le_of_eq hlo)) (Nat.le_refl _)
             refine zcq rfl rfl (zao (by kernel_rfl) rfl) (zkh a.b qa a.b.length ca w917 hb1) ?_
             rintro _ w155 ⟨rfl, hb155⟩
             have hS918 := hS917.add0 hb155
             refine ⟨hS918, ?_⟩
             replace hLL := hLL.new hb155
             replace hT := hT.new hb155
             replace hr16 := hr16.new hb155
             refine zaS 8 (by kernel_rfl) ?_
             have hrp := rPut hT hJ.ok b (hJ.vs hbn) hXl
             rw [← hab] at hrp
             refine zcq rfl rfl (zao (by kernel_rfl) rfl) (hrp) ?_
             rintro _ w156 ⟨rfl, ⟨cl2, p12, c12, hcl2, hT⟩, hb156⟩
             have hS919 := hS918.zjK hn917 hb156
             refine ⟨hS919, ?_⟩
             replace hLL := hLL.lq hb156
             replace hr16 := hr16.kl hb156
             refine zaR (by kernel_rfl) ?_
             refine za2 (zai (zac (zaa rfl (zab) ?_)))
             refine zaa rfl (zaV rfl rfl (Coup.w64 (by omega))) ?_
             refine zaa rfl (zad) (zaf ?_)
             exact zbq ⟨k + 1, by omega, ⟨by go_num, rfl, rfl, rfl, rfl, rfl, rfl, rfl⟩, by omega, ⟨cv2, _, _, p12, c12, hT, hJ.put hab hbn hXl hcl2⟩, hr16, hLL⟩
            ·
             refine zau (za2 (zai (zac (zaa rfl (zab) ?_))))
             refine zaa rfl (zaV rfl rfl (Coup.w64 (by omega))) ?_
             refine zaa rfl (zad) (zaf ?_)
             rw [pP_no he0] at hT
             exact zbq ⟨k + 1, by omega, ⟨by go_num, rfl, rfl, rfl, rfl, rfl, rfl, rfl⟩, by omega, ⟨cv2, P, R', p1, c1, hT, hJ⟩, hr16, hLL⟩
           ·
            refine zbp (zbW (zb9 (zbw (za2 ?_))))
            exact zbq ⟨0, ⟨rfl, rfl, rfl, rfl, rfl, rfl⟩, .inl ⟨by decide, cv, P, V, T, R', p1, c1, hT.weak (fun b hb => List.mem_cons_of_mem _ hb), hJ.up (by omega) (by omega) (by omega) (by omega)⟩, hLL⟩
          ·
           refine zaE rfl rfl (zaE rfl rfl (zaa rfl (zaz rfl) (zaf (zai ?_))))
           refine W_f rfl ?_
           refine zbp (zbW (zb9 (zbw (za2 ?_))))
           exact zbq ⟨0, ⟨rfl, rfl, rfl, rfl, rfl, rfl⟩, .inl ⟨by decide, cv, P, V, T, R', p1, c1, hT.weak (fun b hb => List.mem_cons_of_mem _ hb), hJ.up (by omega) (by omega) (by omega) (by omega)⟩, hLL⟩
         ·
          refine zau (za2 ?_)
          exact zbq ⟨0, ⟨rfl, rfl, rfl, rfl, rfl, rfl⟩, .inl ⟨by decide, cv, P, V, T, R', p1, c1, hT.weak (fun b hb => List.mem_cons_of_mem _ hb), hJ.up (by omega) (by omega) (by omega) (by omega)⟩, hLL⟩
   ·
    clear hT hJ hr16 hLL hrf
    rintro e f2 w2 ⟨hcase, hLL⟩
    refine zak (zac (zaa rfl (zab) ?_))
    refine zaa rfl (zbr rfl rfl) ?_
    refine zaf (zai ?_)
    refine zaZ rfl (fun h10 => ?_) (fun h10 => ?_)
    ·
     refine zak ?_
     have hc2 := hcase.elim (fun h => absurd h10 h.1) fun h => h.2
     obtain ⟨cv, P2, V2, R2, p12, c12, hT, hdd, hsz, hm2, hvs2, hVN2, hcr2⟩ := hc2
     obtain ⟨B, hRB, hBL, _, hD⟩ := hT.zkr
     obtain ⟨p22, c22, p32, c32, p42, c42, hrf2, hBe⟩ := hRB
     have hq := hrf2.row
     unfold rfV at hq
     have hcap := hrf2.s1.k
     have hQ := hrf2.s1.pgs (L := B ++ L) (lo := lo) (by rw [hvs2]; exact zhY hVN2) (fun b hb => by rw [hBe]; simp [hb])
     have hsz2 : P2.G.size ≤ 4000 := by omega
     clear hrf2 hBe
     refine zbg [] (by kernel_rfl) ?_
     intro w920 hb920 hS920
     replace hLL := hLL.new hb920
     replace hT := hT.new hb920
     replace hD := hD.new hb920
     replace hQ := hQ.new hb920
     replace hq := hq.new hb920
     have hLL_d920 := hLL
     have hT_d920 := hT
     have hD_d920 := hD
     have hQ_d920 := hQ
     have hq_d920 := hq
     refine zah 0 (by kernel_rfl) rfl (fun _ _ => zab) ?_
     refine zah 1 (by kernel_rfl) rfl (fun _ _ => zal rfl) ?_
     refine zah 2 (by kernel_rfl) rfl (fun _ _ => zaj (off := 0) (by kernel_rfl) rfl) ?_
     refine zah 3 (by kernel_rfl) rfl (fun w' hS' => zam rfl (Ld.zbb (hq_d920.kq hS') (by kernel_rfl) rfl)) ?_
     refine zah 5 (by kernel_rfl) rfl (fun _ _ => zab) ?_
     refine zfT 4 6 (by kernel_rfl) ?_ ?_
     ·
      refine zbN rfl rfl (zci (e := 63) (.slice p12 R2.vs.length c12) ([.slice p12 R2.vs.length c12]) ([Value.slice none 0 0]) 1 (by kernel_rfl) (by kernel_rfl) rfl rfl rfl ⟨by decide, by decide⟩ (fun g163 w163 hg163 hr163 hb163 => ?_))
      have hS921 := hS920.add0 hb163
      refine ⟨hS921, ?_⟩
      have ge_hS920_g163 := Nat.le_trans hS920.size hg163
      have lt_gR_g163 : gR < g163 := Nat.lt_of_lt_of_le hq.lt hg163
      replace hLL := hLL.new hb163
      replace hT := hT.newc hb163 hg163 hr163.lt
      replace hD := hD.newc hb163 hg163 hr163.lt
      replace hQ := hQ.new hb163
      replace hq := hq.new hb163
      refine zaS 6 (by kernel_rfl) ?_
      refine zcq rfl rfl (zao (by kernel_rfl) rfl) (zl7 hT hsz2 hdd) ?_
      rintro _ w165 ⟨rfl, hb165⟩
      have hS922 := hS921.add0 hb165
      refine ⟨hS922, ?_⟩
      replace hLL := hLL.new hb165
      replace hT := hT.new hb165
      replace hD := hD.new hb165
      replace hQ := hQ.new hb165
      replace hq := hq.new hb165
      replace hr163 := hr163.new hb165
      refine zah 7 (by kernel_rfl) rfl (fun _ _ => zad) ?_
      refine zah 8 (by kernel_rfl) rfl (fun _ _ => zad) ?_
      refine zaR (by kernel_rfl) ?_
      refine zai (zax (za6 (zaT (zc6 (za6 (zaT ?_))))))
      refine zar [_, _] ⟨rfl, rfl, trivial⟩ ?_
      exact ⟨⟨some ⟨g163, 0, none⟩, [R2.vs], 1, P2.D, g163 :: (B ++ L), rfl, hD, zjr hr163 rfl (hQ.weak fun b hb => List.mem_cons_of_mem _ hb) hcap (List.mem_cons_self ..), by simp, (fun S hS => by rw [List.mem_singleton.1 hS]; exact ⟨V2, hvs2, hVN2⟩), hcr2.imp (by omega) (fun W e => by rw [e, hvs2]; simp), hm2⟩, hLL⟩
     ·
      refine zcq rfl rfl (zao (by kernel_rfl) rfl) (zl7 hT hsz2 hdd) ?_
      rintro _ w165 ⟨rfl, hb165⟩
      have hS923 := hS920.add0 hb165
      refine ⟨hS923, ?_⟩
      replace hLL := hLL.new hb165
      replace hT := hT.new hb165
      replace hD := hD.new hb165
      replace hQ := hQ.new hb165
      replace hq := hq.new hb165
      refine zaS 4 (by kernel_rfl) ?_
      refine zbN rfl rfl (zci (e := 63) (.slice p12 R2.vs.length c12) ([.slice p12 R2.vs.length c12]) ([Value.slice none 0 0]) 1 (by kernel_rfl) (by kernel_rfl) rfl rfl rfl ⟨by decide, by decide⟩ (fun g163 w163 hg163 hr163 hb163 => ?_))
      have hS924 := hS923.add0 hb163
      refine ⟨hS924, ?_⟩
      have ge_hS923_g163 := Nat.le_trans hS923.size hg163
      have lt_gR_g163 : gR < g163 := Nat.lt_of_lt_of_le hq.lt hg163
      replace hLL := hLL.new hb163
      replace hT := hT.newc hb163 hg163 hr163.lt
      replace hD := hD.newc hb163 hg163 hr163.lt
      replace hQ := hQ.new hb163
      replace hq := hq.new hb163
      refine zah 7 (by kernel_rfl) rfl (fun _ _ => zad) ?_
      refine zah 8 (by kernel_rfl) rfl (fun _ _ => zad) ?_
      refine zaR (by kernel_rfl) ?_
      refine zai (zax (za6 (zaT (zc6 (za6 (zaT ?_))))))
      refine zar [_, _] ⟨rfl, rfl, trivial⟩ ?_
      exact ⟨⟨some ⟨g163, 0, none⟩, [R2.vs], 1, P2.D, g163 :: (B ++ L), rfl, hD, zjr hr163 rfl (hQ.weak fun b hb => List.mem_cons_of_mem _ hb) hcap (List.mem_cons_self ..), by simp, (fun S hS => by rw [List.mem_singleton.1 hS]; exact ⟨V2, hvs2, hVN2⟩), hcr2.imp (by omega) (fun W e => by rw [e, hvs2]; simp), hm2⟩, hLL⟩
    ·
     have hc2 := hcase.elim (fun h => h.2) fun h => absurd h.1 h10
     obtain ⟨cv, P2, V2, T2, R2, p12, c12, hT, hJ⟩ := hc2
     refine zau (za2 (zai (zac (zaa rfl (zab) ?_))))
     refine zaa rfl (zaV rfl rfl (Coup.w64 (by omega))) ?_
     refine zaa rfl (zad) (zaf ?_)
     exact zbq ⟨i + 1, by omega, ⟨by go_num, rfl, rfl, rfl, rfl⟩, by omega, ⟨cv, P2, V2, T2, R2, p12, c12, hT, hJ⟩, hLL⟩
  ·
   obtain ⟨B, hRB, hBL, _, hD⟩ := hT.zkr
   obtain ⟨p22, c22, p32, c32, p42, c42, hrf2, hBe⟩ := hRB
   have hcap := hrf2.s1.k
   have hvs2 : R'.vs = pgL V N := by rw [hJ.r.vs, hJ.pn]
   have hVN2 := hJ.j.ln2 hJ.pn
   have hQ := hrf2.s1.pgs (L := B ++ L) (lo := lo) (by rw [hvs2]; exact zhY hVN2) (fun b hb => by rw [hBe]; simp [hb])
   refine zbp (zbW (zb9 (zbw (zai (zak (zac (zaa rfl (zab) (zaa rfl (zal rfl) (zaa rfl (zaj (off := 0) (by kernel_rfl) rfl) ?_)))))))))
   refine zaa rfl (zam rfl (ld_pgh hrf2)) ?_
   refine zaX rfl (zci (e := 63) (.slice p1 R'.vs.length c1) ([.slice p1 R'.vs.length c1]) ([Value.slice none 0 0]) 1 (by kernel_rfl) (by kernel_rfl) rfl rfl rfl ⟨by decide, by decide⟩ (fun g170 w170 hg170 hr170 hb170 => ?_))
   replace hLL := hLL.new hb170
   replace hD := hD.newc hb170 hg170 hr170.lt
   replace hQ := hQ.new hb170
   refine zaa rfl (zad) (zaa rfl (zad) (zaf (zai (zax ?_))))
   refine zar [_, _] ⟨rfl, rfl, trivial⟩ ?_
   have hcr2 := hJ.j.crash
   have hcc := hJ.pc
   rw [hJ.ps, hJ.pn] at hcr2
   exact ⟨⟨some ⟨g170, 0, none⟩, [R'.vs], 1, P.D, g170 :: (B ++ L), rfl, hD, zjr hr170 rfl (hQ.weak fun b hb => List.mem_cons_of_mem _ hb) hcap (List.mem_cons_self ..), by simp, (fun S hS => by rw [List.mem_singleton.1 hS]; exact ⟨V, hvs2, hVN2⟩), hcr2.imp (by omega) (fun W e => by rw [e, hvs2]; simp), hJ.pm⟩, hLL⟩
theorem zpC {N n fr : Nat} (h4 : 4 ≤ n) (hs : n ≤ 4000) (hp : N ≤ 500) (hdk : zcG (frP N n fr).D) : zfm (frP N n fr).D n N 2 (fun _ => zcM) := by
 obtain ⟨a1, a2, a3, a4⟩ := zhL fr h4 hs hp
 have hinv : Inv n 2 2 1 [] (zd1 (frP N n fr).D n) := by
  rw [show zd1 (frP N n fr).D n = zaI (128 * n) from zgA fun j hj => by rw [a4 _ (by omega), if_neg (by omega)]]
  exact (zpk n).up (by omega) (by omega)
 refine ⟨1, [], ⟨hdk, by rw [a2]; omega, a1.short, by rw [a4 0 (by omega), if_pos rfl], hinv.up (Nat.le_refl _) (by omega)⟩, by rw [a2]; omega, fun i hi => ?_⟩
 show zbP _ _ = zcM
 refine zgc zdS fun j hj => ?_
 rw [a4 _ (by omega), if_neg (by omega), zk9]
theorem gP_di (P : Pl) (n : Int) : (gP P n).di = P.di := by
 unfold gP zg1
 split
 ·split
  ·rfl
  ·exact (zc0 P n.toNat).2.2.2.2.1
 ·rfl
section
variable {g x q mc md lo N : Nat} {cv : Value} {L : List Nat} {P : Pl} {V : Nat → Pg} {T : List (Nat × Rec)} {w : World}
set_option maxRecDepth 20000 in
theorem all32 (h : zbc g x q mc md cv cv None lo L P w) (hj : PlJ P V T) (hc : P.ch = noP) (qs : Option Addr) (cs : Nat) (S : List Pg) (hS : zgR lo L w qs S) :
   Calls Tryz.prog 32 [.pointer (some ⟨q, 0, none⟩), .slice qs S.length cs].toArray w (Ret fun v w' => ∃ b cv' P', v = .bool b ∧ (b = true ↔ pgL V P.n = S) ∧ zbc g x q mc md cv' cv' None lo L P' w' ∧ PlJ P' V T ∧ P'.ch = noP ∧ P'.di = P.di ∧ P'.n = P.n ∧ P'.G = P.G ∧ P'.D = P.D ∧ LoL lo L w w') := by
 have hLL := LoL.refl lo L w
 have hml : maxLen = 9223372036854775807 := by decide
 have hpg := znR h hj.ok.lg.szm
 have hsl := zds V P.n
 have hSl := zd3 hS.ok
 have hmx := hS.at_.max
 obtain ⟨n, hn⟩ : ∃ n, S.length = n := ⟨_, rfl⟩
 have hat := hS.at_
 rw [hn] at hat hSl ⊢
 refine zaw (fn := Tryz.f32) (rs := [.tmp 4]) (n := 35) Tryz.func32 rfl rfl Tryz.ntmps32 (by kernel_rfl) rfl ?_
 refine zak (zac (zaa rfl (zad) (zaf (zai (zak (zak (zac (zaa rfl (zab) ?_))))))))
 refine zat rfl (zao (by kernel_rfl) rfl) (hpg) ?_
 rintro _ w9 ⟨rfl, hb9⟩
 replace h := h.new hb9
 replace hLL := hLL.new hb9
 replace hS := hS.new hb9
 refine zaa rfl (zab) ?_
 refine zaa rfl (zaA (e := 37) (sz := 512) (by kernel_rfl) rfl rfl) ?_
 refine zaa rfl (zaW rfl rfl) ?_
 refine zaf (zai ?_)
 refine zaZ rfl (fun hne => ?_) (fun hne => ?_)
 ·
  refine zak (zac (zaa rfl (zad) (zaf (zai (zax (zaT ?_))))))
  refine zar [_] ⟨rfl, trivial⟩ ?_
  refine ⟨false, cv, P, rfl, ⟨fun h => (nomatch h), fun e => absurd ?_ hne⟩, h, hj, hc, rfl, rfl, rfl, rfl, hLL⟩
  rw [← hn, ← e, hsl]
 ·
  have hPn : P.n = n := by omega
  refine zau (zai (zak (zak (zac (zaa rfl (zad) (zaf (zai (zaD ?_))))))))
  refine zbF (α := Nat) 0 (fun i => [(5, .int .i64 (i : Nat)), (1, .slice qs n cs), (0, .pointer (some ⟨q, 0, none⟩))])
    (fun i w' => i ≤ n ∧ (∃ cv' P', zbc g x q mc md cv' cv' None lo L P' w' ∧ PlJ P' V T ∧ P'.ch = noP ∧ P'.di = P.di ∧ P'.n = P.n ∧ P'.G = P.G ∧ P'.D = P.D) ∧ (∀ k, k < i → S[k]? = some (V k)) ∧ zgR lo L w' qs S ∧ LoL lo L w w') (fun i => n - i)
    ⟨rfl, rfl, rfl, rfl⟩ ⟨Nat.zero_le _, ⟨cv, P, h, hj, hc, rfl, rfl, rfl, rfl⟩, fun k hk => absurd hk (Nat.not_lt_zero _), hS, hLL⟩ ?_
  clear h hj hc hpg hS hLL hat
  rintro i f wr ⟨hi, ⟨cv1, P1, h, hj, hc, hdi, hn1, hG, hD⟩, hall, hS, hLL⟩
  refine zak (zak (zac (zaa rfl (zab) (zaa rfl (zab) ?_))))
  refine zaa rfl (zaA (e := 37) (sz := 512) (by kernel_rfl) rfl rfl) ?_
  refine zaa rfl (zbd rfl rfl) ?_
  refine zaf (zai ?_)
  refine zaZ rfl (fun hlt => ?_) (fun hlt => ?_)
  ·
   refine zau (zai (zak (zaD (zak ?_))))
   have hob : ∃ X, S[i]? = some X := ⟨_, List.getElem?_eq_getElem (by omega)⟩
   obtain ⟨X, hX⟩ := hob
   have hXl := hS.ok X (List.mem_of_getElem? hX)
   have hgt := jGet h hj (i : Nat)
   have hin : inP P1 ((i : Nat) : Int) := by unfold inP; omega
   have hgX : gX P1 V ((i : Nat) : Int) = V i := by unfold gX; rw [if_pos hin, hc]; rfl
   have hrd : rdE P1 ((i : Nat) : Int) = 0 := by unfold rdE; rw [if_pos hin]
   rw [hgX, hrd] at hgt
   have hVl := hj.ln i (by omega)
   have hVb : (bv (V i)).length = 512 := by rw [zae]; exact hVl
   refine zac (zaa rfl (zab) (zaa rfl (zab) ?_))
   refine zat rfl (zao (by kernel_rfl) rfl) (hgt) ?_
   rintro _ w22 ⟨rfl, ⟨cv2, h⟩, hb22⟩
   replace hLL := hLL.lq hb22
   replace hS := hS.ll hb22 (by first | (intro b hb; exact hb) | (intro b hb; simp [hb]; done) | simp)
   refine zaa rfl (zab) (zaa rfl (zan rfl rfl) (zaa rfl (zan rfl rfl) ?_))
   have hz1 := hLL.size
   have hB6 := Below.refl w22.heap.size w22
   refine zaX rfl (zaO (List.replicate 512 (Value.int .u8 0)) (by kernel_rfl) (fun g6 w6 hg6 hr6 hb6 => ?_))
   have ge_hB6_g6 := Nat.le_trans hB6.size hg6
   replace h := h.newc hb6 hg6 hr6.lt
   replace hLL := hLL.new hb6
   replace hB6 := hB6.acc hb6
   refine za4 rfl (zav 512 (bv (V i)) rfl rfl hr6 (by kernel_rfl) (by first | assumption | (simp; done) | (simp [zae, *]; done)) (by first | assumption | (simp; done) | (simp [zae, *]; done) | rfl) (by first | exact zaL _ | assumption | (simp [Value.oneCell']; done)) (fun w901 hr6 ho901 => ?_))
   replace h := h.only ho901 (by first | (right; simp; done) | (left; omega))
   replace hLL := hLL.oq ho901
   replace hB6 := ho901.below hB6 ge_hB6_g6
   have hS6 := hS.new hB6
   refine zaa rfl (zad) (zaf (zai (zak ?_)))
   have hat := hS6.at_
   rw [hn] at hat
   have hobt := hat.some (by omega)
   obtain ⟨g0, o0, rfl, _⟩ := hobt
   refine zbg [] (by kernel_rfl) ?_
   intro w902 hb902 hS902
   replace h := h.new hb902
   replace hLL := hLL.new hb902
   replace hr6 := hr6.new hb902
   replace hS6 := hS6.new hb902
   replace hat := hat.new hb902
   replace hB6 := hB6.acc hb902
   have h_d902 := h
   have hLL_d902 := hLL
   have hr6_d902 := hr6
   have hS6_d902 := hS6
   have hat_d902 := hat
   have hB6_d902 := hB6
   refine zah 0 (by kernel_rfl) rfl (fun _ _ => zab) ?_
   refine zah 1 (by kernel_rfl) rfl (fun _ _ => zaW rfl rfl) ?_
   refine zah 2 (by kernel_rfl) rfl (fun _ _ => zab) ?_
   refine WA_fp 27 rfl ((by simp)) ?_
   refine zah 3 (by kernel_rfl) rfl (fun w' hS' => zam rfl (Ld.zb5 (k := 512) (hr6_d902.kq hS') (by kernel_rfl) (by kernel_rfl) (by first | (simp; done) | (simp [zae, *]; done) | assumption))) ?_
   refine zah 4 (by kernel_rfl) rfl (fun _ _ => zab) ?_
   refine zah 5 (by kernel_rfl) rfl (fun _ _ => zab) ?_
   refine zah 6 (by kernel_rfl) rfl (fun _ _ => zaQ (e := 37) (sz := 512) (by kernel_rfl) rfl rfl (i) (by omega) (by omega)) ?_
   refine zah 7 (by kernel_rfl) rfl (fun w' hS' => zam rfl (zl2 (hat_d902.kpd hS' (by first | (simp; done) | (simp; omega) | (simp [*]; done) | exact zaH (Or.inl (by omega)) | exact zaH (Or.inr (by simp)) | exact fun g hm => Nat.le_trans (by omega) (zel hm).1 | (intro b o e; cases e; exact zaH (Or.inl (by omega))) | (intro b hm; have := (hu.lt b (Option.mem_toList.1 hm)).1; omega) | (intro b o e; cases e; intro hm; have := (hu.lt _ (Option.mem_toList.1 hm)).1; omega))) (hS6_d902.kpd hS' (by first | (simp; done) | (simp; omega) | (simp [*]; done) | exact zaH (Or.inl (by omega)) | exact zaH (Or.inr (by simp)) | exact fun g hm => Nat.le_trans (by omega) (zel hm).1 | (intro b o e; cases e; exact zaH (Or.inl (by omega))) | (intro b hm; have := (hu.lt b (Option.mem_toList.1 hm)).1; omega) | (intro b o e; cases e; intro hm; have := (hu.lt _ (Option.mem_toList.1 hm)).1; omega))).ok hX)) ?_
   refine zah 8 (by kernel_rfl) rfl (fun _ _ => zkI (n := 512) (by kernel_rfl) rfl rfl hVl hXl) ?_
   refine zah 9 (by kernel_rfl) rfl (fun _ _ => zaz rfl) ?_
   refine zaR (by kernel_rfl) ?_
   refine zai ?_
   refine W_ifn rfl (fun hne2 => ?_) (fun hne2 => ?_)
   ·
    refine zak (zac (zaa rfl (zad) (zaf (zai (zax (za6 (zaT (zc6 (za6 (zaT ?_))))))))))
    refine zar [_] ⟨rfl, trivial⟩ ?_
    exact ⟨false, cv2, gP P1 (i : Nat), rfl, ⟨fun h => (nomatch h), fun e => absurd (Option.some.inj (hX.symm.trans (by rw [← e]; exact zfO (by omega)))).symm hne2⟩, h.weak (fun b hb => List.mem_cons_of_mem _ hb), hj.gP _, (zeF P1 _).2.2.1.trans hc, (gP_di P1 _).trans hdi, (zeF P1 _).2.2.2.trans hn1, (zeF P1 _).2.1.trans hG, (zeF P1 _).1.trans hD, hLL⟩
   ·
    refine zau (za2 (zai (zac (zaa rfl (zab) ?_))))
    refine zaa rfl (zaV rfl rfl (Coup.w64 (by omega))) ?_
    refine zaa rfl (zad) (zaf ?_)
    refine zbq ⟨i + 1, by omega, ⟨by go_num, rfl, rfl, rfl⟩, by omega, ⟨cv2, gP P1 (i : Nat), h.weak (fun b hb => List.mem_cons_of_mem _ hb), hj.gP _, (zeF P1 _).2.2.1.trans hc, (gP_di P1 _).trans hdi, (zeF P1 _).2.2.2.trans hn1, (zeF P1 _).2.1.trans hG, (zeF P1 _).1.trans hD⟩, fun k hk => ?_, hS6, hLL⟩
    by_cases hki : k = i
    · rw [hki, hX, ← hne2]
    · exact hall k (by omega)
  ·
   refine zbp (zbW (zb9 (zbw (zai (zak (zac (zaa rfl (zad) (zaf (zai (zax ?_))))))))))
   refine zar [_] ⟨rfl, trivial⟩ ?_
   refine ⟨true, cv1, P1, rfl, ⟨fun _ => List.ext_getElem? fun k => ?_, fun _ => rfl⟩, h, hj, hc, hdi, hn1, hG, hD, hLL⟩
   by_cases hk : k < n
   · rw [zfO (by omega), hall k (by omega)]
   · rw [List.getElem?_eq_none (by rw [hsl]; omega), List.getElem?_eq_none (by omega)]
end
theorem zot (D : Dk) (k : Int) : (zjL D k).V = D.V ∧ (zjL D k).dead = D.dead := by
 unfold zjL
 split <;> exact ⟨rfl, rfl⟩
theorem zg6 (n : Nat) : zfJ noP n = [] := by
 have e : ∀ m a, zcA noP a m = [] := fun m => by
  induction m with
  | zero => intro a; rfl
  | succ m ih => intro a; rw [zcA]; exact ih (a + 1)
 unfold zfJ
 rw [zg2, e]; rfl
theorem openJ0 {g lo n N c fr k : Nat} {L : List Nat} {D : Dk} {w : World} {V : Nat → Pg} (h : Two (DZ g D) None lo L w) (hr : zfm D n N c V) (ha : zb6 D k) (hN : zfr D.V.length (n : Int) = N) (hN4 : 4 ≤ N) (hN2 : N ≤ 2048) (hc : c + 2 < 4611686018427387904) (h2 : 2 ≤ fr) (hm : fr ≤ 100) (hV : ∀ i, i < N → (V i).length = 512) :
  Calls Tryz.prog 18 [.pointer (some ⟨g, 0, none⟩), .int .i64 (n : Int), .int .i64 (fr : Int)].toArray w (Ret fun v w' => (∃ q x mc md cv P T, v = .tuple #[.pointer (some ⟨q, 0, none⟩), .int .i64 0] ∧ zbc g x q mc md cv cv None lo L P w' ∧ PlJ P V T ∧ P.ch = noP ∧ P.di = noP ∧ P.n = N ∧ P.G.size = n ∧ P.G.count ≤ c + 2 ∧ P.D.V.length = D.V.length) ∧ LoL lo L w w') := by
 refine (openJ h hr ha.dead hN hN4 hN2 hc h2 hm hV).to ?_
 rintro v w' ⟨⟨vq, e, rfl, hk, hh⟩, he⟩
 obtain ⟨vq2, he2⟩ := he k ha
 have e0 : e = 0 := by
  have h3 := congrArg (fun v => match v with | .tuple a => (match a.toList with | [_, .int _ e] => e | _ => 0) | _ => 0) he2
  exact h3
 rcases hh with ⟨e1, _⟩ | ⟨_, q, x, mc, md, cv, P, T, rfl, h1, h2, h3, h4, h5, h6, h7, h8, h9⟩
 ·rw [e0] at e1; cases e1
 ·rw [e0]
  exact ⟨⟨q, x, mc, md, cv, P, T, rfl, h1, h2, h3, h4, h5, h6, h7, h9⟩, hk⟩
set_option maxRecDepth 20000 in
set_option maxHeartbeats 4000000 in
theorem zmP (pages s fr : Int) (p : Option Addr) (n cp : Nat) (R : List PLife) (w : World) (hR : zdv (PlQ w) w 3 p n R) :
   Calls Tryz.prog 6 [.int .i64 pages, .int .i64 s, .int .i64 fr, .slice p n cp].toArray w (Ret fun v w' => v = .bool true ∧ Below w.heap.size w w') := by
 have hLL := LoL.refl w.heap.size [] w
 have hml : maxLen = 9223372036854775807 := by decide
 have hfit := fits06 pages s w
 have hRl := hR.1
 have hmax := hR.max
 have hN0 : Two None None w.heap.size [] w := ⟨⟨[], [], rfl, rfl, (fun b hb => nomatch hb), fun b hb => nomatch hb⟩, Nat.le_refl _, fun b hb => nomatch hb⟩
 refine Calls.to (R := fun v w' => v = .bool true ∧ LoL w.heap.size [] w w') ?_ (fun v w' hh => ⟨hh.1, zgm (Below.refl _ _) hh.2 (Nat.le_refl _)⟩)
 refine zaw (fn := Tryz.f6) (rs := [.tmp 8]) (n := 161) Tryz.func6 rfl rfl Tryz.ntmps6 (by kernel_rfl) rfl ?_
 refine zak (zac (zaa rfl (zad) (zaf (zai (zak (zak (zac (zaa rfl (zab) (zaa rfl (zab) ?_)))))))))
 refine zat rfl (zao (by kernel_rfl) rfl) (hfit) ?_
 rintro _ _ ⟨rfl, rfl⟩
 refine zaa rfl (zcr rfl) ?_
 refine zaa rfl (zab) ?_
 refine zeM 25 rfl (fun hA => ?_) (fun hA => ?_)
 ·
  refine zaE rfl rfl (zaE rfl rfl (zaa rfl (zay rfl) (zaa rfl (zab) (zaE rfl rfl (zaE rfl rfl (zaa rfl (zay rfl) (zaa rfl (zab) (zaE rfl rfl (zaE rfl rfl (zaE rfl rfl (zaa rfl (zay rfl) ?_)))))))))))
  refine zaf (zai ?_)
  refine zkB rfl (rfl) ?_
  refine zak (zac ?_)
  refine zat rfl (zao (by kernel_rfl) rfl) (zfN w) ?_
  rintro _ w38 ⟨rfl, hb38⟩
  replace hLL := hLL.new hb38
  refine zaa rfl (zad) (zaf (zai (zax (zaT ?_))))
  refine zar [_] ⟨rfl, trivial⟩ ?_
  exact ⟨rfl, hLL⟩
 ·
  refine zas rfl (zaa rfl (zab) (zas rfl ?_))
  refine zaa rfl (zbd rfl rfl) ?_
  refine zaa rfl (zaz rfl) (zaa rfl (zab) ?_)
  refine zbJ 29 rfl (fun h1 => ?_) (fun h1 => ?_)
  ·
   refine zaE rfl rfl (zaE rfl rfl (zaa rfl (zay rfl) (zaa rfl (zab) (zaE rfl rfl (zaE rfl rfl (zaE rfl rfl (zaa rfl (zay rfl) (zaf (zai ?_)))))))))
   refine zkB rfl (rfl) ?_
   refine zak (zac ?_)
   refine zat rfl (zao (by kernel_rfl) rfl) (zfN w) ?_
   rintro _ w38 ⟨rfl, hb38⟩
   replace hLL := hLL.new hb38
   refine zaa rfl (zad) (zaf (zai (zax (zaT ?_))))
   refine zar [_] ⟨rfl, trivial⟩ ?_
   exact ⟨rfl, hLL⟩
  ·
   refine zas rfl (zaa rfl (zab) (zas rfl ?_))
   refine zaa rfl (zbU rfl rfl) ?_
   refine zaa rfl (zaz rfl) (zaa rfl (zab) ?_)
   refine zbJ 33 rfl (fun h2 => ?_) (fun h2 => ?_)
   ·
    refine zaE rfl rfl (zaE rfl rfl (zaE rfl rfl (zaa rfl (zay rfl) (zaf (zai ?_)))))
    refine zkB rfl (rfl) ?_
    refine zak (zac ?_)
    refine zat rfl (zao (by kernel_rfl) rfl) (zfN w) ?_
    rintro _ w38 ⟨rfl, hb38⟩
    replace hLL := hLL.new hb38
    refine zaa rfl (zad) (zaf (zai (zax (zaT ?_))))
    refine zar [_] ⟨rfl, trivial⟩ ?_
    exact ⟨rfl, hLL⟩
   ·
    refine zas rfl (zaa rfl (zab) (zas rfl ?_))
    refine zaa rfl (zaA (e := 62) (sz := 3) (by kernel_rfl) rfl rfl) ?_
    refine zas rfl ?_
    refine zaa rfl (zbU rfl rfl) ?_
    refine zaa rfl (zaz rfl) (zaf (zai ?_))
    refine zaZ rfl (fun h3 => ?_) (fun h3 => ?_)
    ·
     refine zak (zac ?_)
     refine zat rfl (zao (by kernel_rfl) rfl) (zfN w) ?_
     rintro _ w38 ⟨rfl, hb38⟩
     replace hLL := hLL.new hb38
     refine zaa rfl (zad) (zaf (zai (zax (zaT ?_))))
     refine zar [_] ⟨rfl, trivial⟩ ?_
     exact ⟨rfl, hLL⟩
    ·
     have hA2 : (4 ≤ pages ∧ pages ≤ 80) ∧ 4 ≤ s ∧ s ≤ 400 := by simpa using hA
     have hob : ∃ P0 S0 F0 : Nat, pages = P0 ∧ s = S0 ∧ fr = F0 := ⟨pages.toNat, s.toNat, fr.toNat, by omega, by omega, by omega⟩
     obtain ⟨P0, S0, F0, e1, e2, e3⟩ := hob
     subst e1 e2 e3
     refine zau (zai (zak (zak (zac (zaa rfl (zad) (zaf (zai (zaD ?_))))))))
     refine zbF (α := Nat) 0 (fun i => [(9, .int .i64 (i : Nat)), (0, .int .i64 (P0 : Nat)), (1, .int .i64 (S0 : Nat)), (2, .int .i64 (F0 : Nat)), (3, .slice p n cp)])
       (fun i w' => i ≤ n ∧ (∀ j a, j < i → R[j]? = some a → fewP a.steps 15 ∧ a.picks.length ≤ 400) ∧ w = w') (fun i => n - i) ⟨rfl, rfl, rfl, rfl, rfl, rfl⟩ ⟨Nat.zero_le _, (by intro j a hj; exact absurd hj (Nat.not_lt_zero _)), rfl⟩ ?_
     clear hfit hLL
     rintro i f wr ⟨hi, hall, rfl⟩
     have hLL := LoL.refl w.heap.size [] w
     refine zak (zak (zac (zaa rfl (zab) (zaa rfl (zab) ?_))))
     refine zaa rfl (zaA (e := 62) (sz := 3) (by kernel_rfl) rfl rfl) ?_
     refine zaa rfl (zbd rfl rfl) ?_
     refine zaf (zai ?_)
     refine zaZ rfl (fun hlt => ?_) (fun hlt => ?_)
     ·
      refine zau (zai (zak (zaD (zak ?_))))
      have hob1 := hR.get (i := i) (by omega)
      obtain ⟨a, hx⟩ := hob1
      have hob2 := hR.some (by omega)
      obtain ⟨gp, op, hgp, _⟩ := hob2
      subst hgp
      have hle := hR.el hx
      obtain ⟨cs, ⟨q1, c1, q2, c2, rfl, hq1, hq2, hok2, hwf⟩, hcl, hce⟩ := hle
      refine zac (zaa rfl (zab) (zaa rfl (zab) ?_))
      refine zaa rfl (zaQ (e := 62) (sz := 3) (by kernel_rfl) rfl rfl (i) (by omega) (by omega)) ?_
      refine zaa rfl (zaj (off := 1) (by kernel_rfl) rfl) ?_
      refine zaa rfl (zam rfl (Ld.one (by kernel_rfl) (hce 1 _ rfl))) ?_
      refine zat rfl (zao (by kernel_rfl) rfl) (few06 q1 a.steps.length c1 15 a.steps w hq1 (by omega)) ?_
      rintro _ _ ⟨fB, rfl, hfB, rfl⟩
      refine zaa rfl (zcr rfl) ?_
      refine zaa rfl (zab) ?_
      refine zeM 52 rfl (fun hf => ?_) (fun hf => ?_)
      ·
       refine zaE rfl rfl (zaE rfl rfl (zaE rfl rfl (zaE rfl rfl (zaE rfl rfl (zaE rfl rfl (zaE rfl rfl (zaa rfl (zay rfl) (zaf (zai ?_)))))))))
       refine zkB rfl (rfl) ?_
       refine zak (zac ?_)
       refine zat rfl (zao (by kernel_rfl) rfl) (zfN w) ?_
       rintro _ w61 ⟨rfl, hb61⟩
       replace hLL := hLL.new hb61
       refine zaa rfl (zad) (zaf (zai (zax (za6 (zaT (zc6 (za6 (zaT ?_))))))))
       refine zar [_] ⟨rfl, trivial⟩ ?_
       exact ⟨rfl, hLL⟩
      ·
       refine zas rfl (zaa rfl (zab) (zas rfl (zaa rfl (zab) (zas rfl ?_))))
       refine zaa rfl (zaQ (e := 62) (sz := 3) (by kernel_rfl) rfl rfl (i) (by omega) (by omega)) ?_
       refine zas rfl (zaa rfl (zaj (off := 2) (by kernel_rfl) rfl) (zas rfl ?_))
       refine zaa rfl (zam rfl (Ld.one (by kernel_rfl) (hce 2 _ rfl))) ?_
       refine zas rfl ?_
       refine zaa rfl (zaA (e := 3) (sz := 1) (by kernel_rfl) rfl rfl) ?_
       refine zas rfl ?_
       refine zaa rfl (zbU rfl rfl) ?_
       refine zaa rfl (zaz rfl) (zaf (zai ?_))
       refine zaZ rfl (fun h400 => ?_) (fun h400 => ?_)
       ·
        refine zak (zac ?_)
        refine zat rfl (zao (by kernel_rfl) rfl) (zfN w) ?_
        rintro _ w61 ⟨rfl, hb61⟩
        replace hLL := hLL.new hb61
        refine zaa rfl (zad) (zaf (zai (zax (za6 (zaT (zc6 (za6 (zaT ?_))))))))
        refine zar [_] ⟨rfl, trivial⟩ ?_
        exact ⟨rfl, hLL⟩
       ·
        refine zau (za2 (zai (zac (zaa rfl (zab) ?_))))
        refine zaa rfl (zaV rfl rfl (Coup.w64 (by omega))) ?_
        refine zaa rfl (zad) (zaf ?_)
        refine zbq ⟨i + 1, by omega, ⟨by go_num, rfl, rfl, rfl, rfl, rfl⟩, by omega, (fun j b hj hb => ?_), rfl⟩
        by_cases hji : j = i
        · rw [hji, hx] at hb; cases hb
          exact ⟨hfB hf, by omega⟩
        · exact hall j b (by omega) hb
     ·
      have hin : n = i := by omega
      subst hin
      have hbg := begunC hN0 P0 S0 F0 (by omega) (by omega) (by omega) (by omega) (by omega) (by omega)
      have hfa := zhL (pages := P0) (s := S0) F0 (by omega) (by omega) (by omega)
      have hfr := fun hd => zpC (N := P0) (n := S0) (fr := F0) (by omega) (by omega) (by omega) hd
      have hcnt := zoa (pages := P0) (s := S0) (by omega) (by omega)
      have hfd : (frP P0 S0 F0).D.dead = false := hfa.1.dead
      have hfl : (frP P0 S0 F0).D.V.length = 1 + S0 + 4 * P0 := hfa.2.1
      have hobt : ∃ mD, 1 + S0 + 4 * P0 = mD := ⟨_, rfl⟩
      obtain ⟨mD, hmD⟩ := hobt
      rw [hmD] at hfl hcnt
      clear hfa
      generalize frP P0 S0 F0 = K at *
      have hzz := zgf P0
      have hzL : pgL (fun _ => zcM) P0 = List.replicate P0 zcM := by unfold pgL; rw [List.map_const', List.length_range]
      refine zbp (zbW (zb9 (zbw (zai (zak (zac (zaa rfl (zab) (zaa rfl (zab) (zaa rfl (zab) ?_)))))))))
      refine zat rfl (zao (by kernel_rfl) rfl) (hbg) ?_
      rintro _ w66 ⟨⟨g, x, q, mc, md, cv, rfl, hP⟩, hb66⟩
      have hD := hP.dz
      clear hP
      replace hLL := hLL.lq hb66
      refine zaa rfl (zab) (zaa rfl (zan rfl rfl) (zaa rfl (zan rfl rfl) (zaa rfl (zan rfl rfl) (zaa rfl (zad) (zaa rfl (zad) (zaa rfl (zad) (zaf (zai (zak (zak (zac ?_)))))))))))
      refine zaa rfl (zab) ?_
      refine zaa rfl (zcr rfl) ?_
      refine zaf (zai ?_)
      refine W_fnb rfl ((by simp)) ?_
      refine zau (zai (zak (zac (zaa rfl (zab) ?_))))
      have hzs := hLL.size
      have hfr2 := hfr (tOk hD).1
      refine zaX rfl (ziN (e := 37) P0 (List.replicate 512 (.int .u8 0)) 512 512 (.int .u8 0) (by kernel_rfl) (by kernel_rfl) ⟨_, rfl, rfl⟩ ⟨_, rfl, rfl⟩ (by intro u hu; exact (List.mem_replicate.1 hu).2) (by simp) (by omega) (by omega) (fun g73 w73 hg73 hr73 hb73 => ?_))
      replace hLL := hLL.new hb73
      replace hD := hD.newc hb73 hg73 hr73.lt
      rw [← hzz, ← hzL] at hr73
      have hvl0 := zd3 (zhY (V := fun _ => zcM) (n := P0) fun _ _ => zdS)
      rw [zds] at hvl0
      refine zaa rfl (zad) (zaf (zai (zak (zak (zac (zaa rfl (zad) (zaf (zai (zaD ?_)))))))))
      have hS0 : zgR w.heap.size [g73] w73 (some ⟨g73, 0, none⟩) (pgL (fun _ => zcM) P0) := ⟨by rw [zds]; exact hr73.slA (m := P0) (sz := 512) hvl0 (by omega), fun _ b o e => by cases e; exact .inr (List.mem_cons_self ..), zhY fun _ _ => zdS⟩
      refine zbF (α := Nat × Option Addr × Nat × Nat) (0, some ⟨g73, 0, none⟩, P0, P0) (fun j => [(14, .int .i64 (j.1 : Nat)), (13, .slice j.2.1 j.2.2.1 j.2.2.2), (10, .pointer (some ⟨g, 0, none⟩)), (0, .int .i64 (P0 : Nat)), (1, .int .i64 (S0 : Nat)), (2, .int .i64 (F0 : Nat)), (3, .slice p n cp)])
        (fun j w' => j.1 ≤ n ∧ j.2.2.1 = P0 ∧ P0 ≤ j.2.2.2 ∧ (∃ L' D' V' c', Two (DZ g D') None w.heap.size L' w' ∧ zfm D' S0 P0 c' V' ∧ D'.dead = false ∧ c' ≤ 2 + 40 * j.1 ∧ zgR w.heap.size L' w' j.2.1 (pgL V' P0) ∧ (∀ i, i < P0 → (V' i).length = 512) ∧ D'.V.length = mD) ∧ LoL w.heap.size [] w w') (fun j => n - j.1)
        ⟨rfl, rfl, rfl, rfl, rfl, rfl, rfl, rfl⟩ ⟨Nat.zero_le _, rfl, Nat.le_refl _, ⟨[g73], K.D, fun _ => zcM, 2, hD, hfr2, hfd, by omega, hS0, fun _ _ => zdS, hfl⟩, hLL⟩ ?_
      clear hD hLL hS0 hr73 hfr2 hfr hfd hfl hbg
      rintro ⟨i, qs, nP, cq⟩ f wr ⟨hi, hnP, hcq, ⟨L', D', V', c', hD, hrs, hd, hcb, hS, hV', hDl⟩, hLL⟩
      dsimp only at *
      subst hnP
      refine zak (zak (zac (zaa rfl (zab) (zaa rfl (zab) ?_))))
      refine zaa rfl (zaA (e := 62) (sz := 3) (by kernel_rfl) rfl rfl) ?_
      refine zaa rfl (zbd rfl rfl) ?_
      refine zaf (zai ?_)
      refine zaZ rfl (fun hlt => ?_) (fun hlt => ?_)
      ·
       refine zau (zai (zak (zaD ?_)))
       refine zjy (fun _ : Unit => [(14, .int .i64 (i : Nat)), (13, .slice qs nP cq), (10, .pointer (some ⟨g, 0, none⟩)), (0, .int .i64 (nP : Nat)), (1, .int .i64 (S0 : Nat)), (2, .int .i64 (F0 : Nat)), (3, .slice p n cp)]) (fun _ w' => (∃ D'', Two (DZ g D'') None w.heap.size L' w' ∧ zfm D'' S0 nP c' V' ∧ D''.dead = false ∧ D''.V.length = mD) ∧ zgR w.heap.size L' w' qs (pgL V' nP) ∧ LoL w.heap.size [] w w') ?_ ?_
       ·
        refine zak ?_
        have hob1 := hR.get (i := i) (by omega)
        obtain ⟨a, hx⟩ := hob1
        have hob2 := hR.some (by omega)
        obtain ⟨gp, op, hgp, _⟩ := hob2
        subst hgp
        have hle := hR.ldB (P := Tryz.prog) (t := 62) (by kernel_rfl) (by kernel_rfl) hx
        obtain ⟨cs, ⟨q1, c1, q2, c2, rfl, hq1, hq2, hok2, hwf⟩, hcl, hld⟩ := hle
        have hobt := hall i a (by omega) hx
        obtain ⟨hfew, hp3⟩ := hobt
        refine zac (zaa rfl (zab) (zaa rfl (zab) ?_))
        refine zaa rfl (zaQ (e := 62) (sz := 3) (by kernel_rfl) rfl rfl (i) (by omega) (by omega)) ?_
        refine zaa rfl (zaj (off := 0) (by kernel_rfl) rfl) ?_
        refine zaa rfl (zam rfl (Ld.one (by kernel_rfl) ((hld _ (zgm (Below.refl _ _) hLL (Nat.le_refl _))).2 0 _ rfl))) ?_
        refine zaa rfl (zeR rfl rfl) ?_
        refine zaf (zai ?_)
        refine zaZ rfl (fun hfu => ?_) (fun hfu => ?_)
        ·
         refine zac (zaa rfl (zab) (zaa rfl (zab) (zaa rfl (zab) ?_)))
         refine zaa rfl (zaQ (e := 62) (sz := 3) (by kernel_rfl) rfl rfl (i) (by omega) (by omega)) ?_
         refine zaa rfl (zaj (off := 0) (by kernel_rfl) rfl) ?_
         refine zaa rfl (zam rfl (Ld.one (by kernel_rfl) ((hld _ (zgm (Below.refl _ _) hLL (Nat.le_refl _))).2 0 _ rfl))) ?_
         refine zat rfl (zao (by kernel_rfl) rfl) (tFuse hD a.fuse hwf.2) ?_
         rintro _ w92 ⟨_, hD, hb92⟩
         replace hLL := hLL.lq hb92
         replace hS := hS.ll hb92 (by first | (intro b hb; exact hb) | (intro b hb; simp [hb]; done) | simp)
         refine zaf ?_
         exact ⟨(), ⟨rfl, rfl, rfl, rfl, rfl, rfl, rfl, rfl⟩, ⟨_, hD, hrs.fuse _, (zot _ _).2.trans hd, by rw [(zot _ _).1]; exact hDl⟩, hS, hLL⟩
        ·
         refine zau ?_
         exact ⟨(), ⟨rfl, rfl, rfl, rfl, rfl, rfl, rfl, rfl⟩, ⟨_, hD, hrs, hd, hDl⟩, hS, hLL⟩
       ·
        clear hD hS hLL hrs hd hDl
        rintro _ f wc ⟨⟨D1, hD, hrs, hd, hDl⟩, hS, hLL⟩
        have hob1 := hR.get (i := i) (by omega)
        obtain ⟨a, hx⟩ := hob1
        have hob2 := hR.some (by omega)
        obtain ⟨gp, op, hgp, _⟩ := hob2
        subst hgp
        have hle := hR.ldB (P := Tryz.prog) (t := 62) (by kernel_rfl) (by kernel_rfl) hx
        obtain ⟨cs, ⟨q1, c1, q2, c2, rfl, hq1, hq2, hok2, hwf⟩, hcl, hld⟩ := hle
        have hob3 := hall i a (by omega) hx
        obtain ⟨hfew, hp3⟩ := hob3
        refine zak (zac (zaa rfl (zab) (zaa rfl (zab) (zaa rfl (zab) (zaa rfl (zab) (zaa rfl (zab) ?_))))))
        refine zaa rfl (zaQ (e := 62) (sz := 3) (by kernel_rfl) rfl rfl (i) (by omega) (by omega)) ?_
        refine zaa rfl (zaj (off := 1) (by kernel_rfl) rfl) ?_
        refine zaa rfl (zam rfl (Ld.one (by kernel_rfl) ((hld _ (zgm (Below.refl _ _) hLL (Nat.le_refl _))).2 1 _ rfl))) ?_
        refine zaa rfl (zab) ?_
        have hlv := live30 (fr := F0) rfl hD hrs hd (by rw [hDl]; exact hcnt) (by omega) (by omega) (by omega) (by omega) (by omega) (by omega) (by omega) q1 a.steps.length c1 a.steps hq1 (zgm (Below.refl _ _) hLL (Nat.le_refl _)) hfew qs cq hS hcq hV'
        rw [hDl] at hlv
        refine zat rfl (zao (by kernel_rfl) rfl) (hlv) ?_
        rintro _ w103 ⟨⟨pm, ML, cm, D3, L3, rfl, hD, hM, hM2, hMV, hcr, hl3⟩, hb103⟩
        replace hLL := hLL.lq hb103
        refine zaa rfl (zab) (zaa rfl (zan rfl rfl) (zaa rfl (zan rfl rfl) (zaa rfl (zad) (zaa rfl (zad) (zaf (zai (zak (zak (zac (zaa rfl (zab) ?_))))))))))
        refine zaa rfl (zcr rfl) ?_
        refine zaa rfl (zab) ?_
        refine zia 108 rfl (rfl) ?_
        refine zas rfl (zaa rfl (zab) (zas rfl (zaa rfl (zab) (zas rfl (zaa rfl (zab) (zas rfl ?_))))))
        refine zaa rfl (zaQ (e := 62) (sz := 3) (by kernel_rfl) rfl rfl (i) (by omega) (by omega)) ?_
        refine zas rfl (zaa rfl (zaj (off := 2) (by kernel_rfl) rfl) (zas rfl ?_))
        refine zaa rfl (zam rfl (Ld.one (by kernel_rfl) ((hld _ (zgm (Below.refl _ _) hLL (Nat.le_refl _))).2 2 _ rfl))) ?_
        refine zas rfl ?_
        have hcr1 := tCrash hD q2 a.picks.length c2 a.picks (hq2.below (zgm (Below.refl _ _) hLL (Nat.le_refl _)) (Nat.le_refl _)) (fun h0 b o e => .inl (by obtain ⟨g', o', e', hl⟩ := hq2.some (by omega); rw [e'] at e; cases e; exact hl))
        have hcr3 := hcr a.picks
        obtain ⟨c4, V4, hc4, hmem4, hrs4⟩ := hcr3
        have hsh3 : zbf D3 100000 := (tOk hD).1.short
        have ha4 : zb6 (zbh D3 a.picks) 100000 := zkR hsh3 (by omega) (by omega) a.picks
        have hl4 := zbZ D3 a.picks
        rw [hl3] at hl4
        have hobt : ∃ D4, zbh D3 a.picks = D4 := ⟨_, rfl⟩
        obtain ⟨D4, hD4⟩ := hobt
        rw [hD4] at hcr1 hrs4 ha4 hl4
        have hV4 : ∀ i, i < nP → (V4 i).length = 512 := fun i hi => by
          obtain ⟨W, e1, e2⟩ := hMV _ hmem4
          rw [pgL_inj e1 i hi]; exact e2 i hi
        refine zat rfl (zao (by kernel_rfl) rfl) (hcr1) ?_
        rintro _ w115 ⟨rfl, hD, hb115⟩
        replace hLL := hLL.lq hb115
        replace hM := hM.ll hb115 (by first | (intro b hb; exact hb) | (intro b hb; simp [hb]; done) | simp)
        refine zas rfl ?_
        refine zaa rfl (zaW rfl rfl) ?_
        refine zaa rfl (zaz rfl) (zaf (zai ?_))
        refine zdT rfl ((by simp)) ?_
        refine zau (zai (zak (zac (zaa rfl (zab) (zaa rfl (zab) (zaa rfl (zab) ?_))))))
        have hop := openJ0 (fr := F0) hD hrs4 ha4 (by rw [hl4]; exact hcnt) (by omega) (by omega) (by omega) (by omega) (by omega) hV4
        rw [hl4] at hop
        refine zat rfl (zao (by kernel_rfl) rfl) (hop) ?_
        rintro _ w122 ⟨⟨q5, x5, mc5, md5, cv5, P5, T5, rfl, hP, hj5, hch5, hdi5, hn5, hs5, hc5, hm5⟩, hb122⟩
        replace hLL := hLL.lq hb122
        replace hM := hM.ll hb122 (by first | (intro b hb; exact hb) | (intro b hb; simp [hb]; done) | simp)
        refine zaa rfl (zab) (zaa rfl (zan rfl rfl) (zaa rfl (zan rfl rfl) (zaa rfl (zad) (zaa rfl (zad) (zaf (zai (zak (zak (zac (zaa rfl (zab) ?_))))))))))
        refine zaa rfl (zaW rfl rfl) ?_
        refine zaf (zai ?_)
        refine zdT rfl ((by simp)) ?_
        refine zau (zai (zak (zac (zaa rfl (zad) (zaf (zai (zak (zak (zac (zaa rfl (zad) (zaf ?_)))))))))))
        refine zai (zaD ?_)
        refine zbF (α := Nat × Bool × Option Addr × Nat × Nat) (0, false, qs, nP, cq) (fun j => [(20, .int .i64 (j.1 : Nat)), (19, .bool j.2.1), (17, .pointer (some ⟨q5, 0, none⟩)), (15, .slice pm ML.length cm), (14, .int .i64 (i : Nat)), (13, .slice j.2.2.1 j.2.2.2.1 j.2.2.2.2), (10, .pointer (some ⟨g, 0, none⟩)), (0, .int .i64 (nP : Nat)), (1, .int .i64 (S0 : Nat)), (2, .int .i64 (F0 : Nat)), (3, .slice (some ⟨gp, op, none⟩) n cp)])
          (fun j w' => j.1 ≤ ML.length ∧ (j.2.1 = true ↔ ∃ l, l < j.1 ∧ ML[l]? = some (pgL V4 nP)) ∧ (j.2.1 = true → j.2.2.2.1 = nP ∧ nP ≤ j.2.2.2.2 ∧ zgR w.heap.size L3 w' j.2.2.1 (pgL V4 nP)) ∧ (∃ cv P, zbc g x5 q5 mc5 md5 cv cv None w.heap.size L3 P w' ∧ PlJ P V4 T5 ∧ P.ch = noP ∧ P.di = noP ∧ P.n = nP ∧ P.G = P5.G ∧ P.D = P5.D) ∧ zky w.heap.size L3 w' pm ML ∧ LoL w.heap.size [] w w') (fun j => ML.length - j.1)
          ⟨rfl, rfl, rfl, rfl, rfl, rfl, rfl, rfl, rfl, rfl, rfl, rfl⟩ ⟨Nat.zero_le _, ⟨fun h => (nomatch h), fun ⟨l, hl, _⟩ => absurd hl (Nat.not_lt_zero _)⟩, (fun h => nomatch h), ⟨cv5, P5, hP, hj5, hch5, hdi5, hn5, rfl, rfl⟩, hM, hLL⟩ ?_
        clear hP hM hLL hj5 hch5 hdi5 hn5
        rintro ⟨l, is, qk, nk, ck⟩ f wl ⟨hll, his, hisP, ⟨cv6, P6, hP, hj6, hch6, hdi6, hn6, hG6, hD6⟩, hM, hLL⟩
        dsimp only at *
        refine zak (zak (zac (zaa rfl (zab) (zaa rfl (zab) ?_))))
        refine zaa rfl (zaA (e := 63) (sz := 1) (by kernel_rfl) rfl rfl) ?_
        refine zaa rfl (zbd rfl rfl) ?_
        refine zaa rfl (zab) ?_
        refine zbJ 131 rfl (fun hlm => ?_) (fun hlm => ?_)
        ·
         refine zas rfl (zaa rfl (zab) (zas rfl ?_))
         refine zaa rfl (zcr rfl) ?_
         refine zaa rfl (zay rfl) (zaf (zai ?_))
         refine zh9 rfl (fun hist => ?_) (fun hist => ?_)
         ·
          refine zau (zai (zak (zaD (zak ?_))))
          have hobm := hM.ex
          obtain ⟨vs, hvs, _, hel⟩ := hobm
          have hobt : ∃ S3, ML[l]? = some S3 := ⟨_, List.getElem?_eq_getElem (by omega)⟩
          obtain ⟨S3, hS3⟩ := hobt
          have hel3 := hel l S3 hS3
          obtain ⟨q3, c3, hv3, hc3, hA3⟩ := hel3
          have hob4 := hvs.some (by omega)
          obtain ⟨g3, o3, hpm3, _⟩ := hob4
          subst hpm3
          refine zac (zaa rfl (zab) (zaa rfl (zab) (zaa rfl (zab) ?_)))
          refine zaa rfl (zbm (e := 63) (by kernel_rfl) rfl rfl (l) (by omega) (by omega)) ?_
          refine zaa rfl (zam rfl (Ld.sl1 hvs (by kernel_rfl) hv3)) ?_
          have hal := all32 hP hj6 hch6 q3 c3 S3 hA3
          refine zat rfl (zao (by kernel_rfl) rfl) (hal) ?_
          rintro _ w142 ⟨bb, cv7, P7, rfl, hbb, hP, hj7, hch7, hdi7, hn7, hG7, hD7, hb142⟩
          replace hLL := hLL.lq hb142
          replace hM := hM.ll hb142 (by first | (intro b hb; exact hb) | (intro b hb; simp [hb]; done) | simp)
          refine zaa rfl (zad) (zaf (zai (zak (zac (zaa rfl (zab) (zaf (zai ?_)))))))
          refine zlm rfl (fun hbt => ?_) (fun hbt => ?_)
          ·
           have hobm2 := hM.ex
           obtain ⟨vs2, hvs2, _, hel2⟩ := hobm2
           have hel4 := hel2 l S3 hS3
           obtain ⟨q4, c4b, hv4, hc4b, hA4⟩ := hel4
           refine zac (zaa rfl (zab) (zaa rfl (zab) ?_))
           refine zaa rfl (zbm (e := 63) (by kernel_rfl) rfl rfl (l) (by omega) (by omega)) ?_
           refine zaa rfl (zam rfl (Ld.sl1 hvs2 (by kernel_rfl) hv4)) ?_
           refine zaa rfl (zad) (zaf (za2 (zai (zac (zaa rfl (zab) ?_)))))
           refine zaa rfl (zaV rfl rfl (Coup.w64 (by omega))) ?_
           refine zaa rfl (zad) (zaf ?_)
           have heq : pgL V4 nP = S3 := by have := hbb.1 hbt; rw [hn6] at this; exact this
           have hl3n : S3.length = nP := by rw [← heq, zds]
           refine zbq ⟨(l + 1, bb, q4, S3.length, c4b), by show _ - (l + 1) < _ - l; omega, ⟨by go_num, rfl, rfl, rfl, rfl, rfl, rfl, rfl, rfl, rfl, rfl, rfl⟩, by show l + 1 ≤ _; omega, ⟨fun _ => ⟨l, by omega, by rw [hS3, heq]⟩, fun _ => hbt⟩, fun _ => ⟨hl3n, by rw [← hl3n]; exact hc4b, by rw [heq]; exact hA4⟩, ⟨cv7, P7, hP, hj7, hch7, hdi7.trans hdi6, hn7.trans hn6, hG7.trans hG6, hD7.trans hD6⟩, hM, hLL⟩
          ·
           refine zau (za2 (zai (zac (zaa rfl (zab) ?_))))
           refine zaa rfl (zaV rfl rfl (Coup.w64 (by omega))) ?_
           refine zaa rfl (zad) (zaf ?_)
           have hbf : bb = false := by simpa using hbt
           have hisf : is = false := by simpa using hist
           refine zbq ⟨(l + 1, bb, qk, nk, ck), by show _ - (l + 1) < _ - l; omega, ⟨by go_num, rfl, rfl, rfl, rfl, rfl, rfl, rfl, rfl, rfl, rfl, rfl⟩, by show l + 1 ≤ _; omega, ⟨fun h => absurd (hbf.symm.trans h) (by decide), fun ⟨j, hj, hj2⟩ => ?_⟩, fun h => absurd (hbf.symm.trans h) (by decide), ⟨cv7, P7, hP, hj7, hch7, hdi7.trans hdi6, hn7.trans hn6, hG7.trans hG6, hD7.trans hD6⟩, hM, hLL⟩
           by_cases hjl : j = l
           ·rw [hjl, hS3] at hj2
            exact hbb.2 (by rw [hn6]; exact (Option.some.inj hj2).symm)
           ·exact absurd (his.2 ⟨j, by omega, hj2⟩) (by rw [hisf]; decide)
         ·
          subst hist
          have hobt := hisP rfl
          obtain ⟨hw1, hw2, hw3⟩ := hobt
          subst hw1
          have hrs6 := hj6.rest
          rw [hn6, hG6, hs5] at hrs6
          have hm6 : P6.D.V.length = mD := by rw [hD6]; exact hm5
          refine zbp (zbW (zb9 (zbw (zai (zak (zac (zaa rfl (zab) ?_)))))))
          refine zaa rfl (zcr rfl) ?_
          refine zaa rfl (zab) ?_
          refine zia 150 rfl (rfl) ?_
          refine zas rfl (zaa rfl (zab) (zas rfl ?_))
          have hch := zjb hP
          rw [hch6, zg6] at hch
          refine zat rfl (zao (by kernel_rfl) rfl) (hch) ?_
          rintro _ w152 ⟨⟨p7, c7, rfl, hsl7, _⟩, hb152⟩
          replace hLL := hLL.new hb152
          replace hM := hM.new hb152
          replace hP := hP.new hb152
          replace hw3 := hw3.new hb152
          refine zas rfl ?_
          refine zaa rfl (zaA (e := 3) (sz := 1) (by kernel_rfl) rfl rfl) ?_
          refine zas rfl (zaa rfl (zab) (zas rfl ?_))
          have hdi := zlM hP
          rw [hdi6, zg6] at hdi
          refine zat rfl (zao (by kernel_rfl) rfl) (hdi) ?_
          rintro _ w155 ⟨⟨p8, c8, rfl, hsl8, _⟩, hb155⟩
          replace hLL := hLL.new hb155
          replace hM := hM.new hb155
          replace hP := hP.new hb155
          replace hw3 := hw3.new hb155
          refine zas rfl ?_
          refine zaa rfl (zaA (e := 3) (sz := 1) (by kernel_rfl) rfl rfl) ?_
          refine zas rfl ?_
          refine zaa rfl (zaV rfl rfl (show IntKind.i64.wrap (((([] : List Int).length : Nat) : Int) + ((([] : List Int).length : Nat) : Int)) = 0 by decide)) ?_
          refine zas rfl ?_
          refine zaa rfl (zaW rfl rfl) ?_
          refine zaa rfl (zaz rfl) (zaf (zai ?_))
          refine zdT rfl ((by simp)) ?_
          refine zau (za2 (zai (zac (zaa rfl (zab) ?_))))
          refine zaa rfl (zaV rfl rfl (Coup.w64 (by omega))) ?_
          refine zaa rfl (zad) (zaf ?_)
          exact zbq ⟨(i + 1, qk, nk, ck), by show n - (i + 1) < n - i; omega, ⟨by go_num, rfl, rfl, rfl, rfl, rfl, rfl, rfl⟩, by show i + 1 ≤ n; omega, rfl, hw2, ⟨L3, P6.D, V4, P5.G.count, hP.dz, hrs6, hj6.dd, by show _ ≤ 2 + 40 * (i + 1); omega, hw3, hV4, hm6⟩, hLL⟩
        ·
         have hl : l = ML.length := by omega
         subst hl
         have hobt := List.mem_iff_getElem?.1 hmem4
         obtain ⟨j, hj⟩ := hobt
         have hist : is = true := his.2 ⟨j, (List.getElem?_eq_some_iff.1 hj).1, hj⟩
         subst hist
         have hobt := hisP rfl
         obtain ⟨hw1, hw2, hw3⟩ := hobt
         subst hw1
         have hrs6 := hj6.rest
         rw [hn6, hG6, hs5] at hrs6
         have hm6 : P6.D.V.length = mD := by rw [hD6]; exact hm5
         refine zaE rfl rfl (zaE rfl rfl (zaa rfl (zaz rfl) (zaf (zai ?_))))
         refine W_f rfl ?_
         refine zbp (zbW (zb9 (zbw (zai (zak (zac (zaa rfl (zab) ?_)))))))
         refine zaa rfl (zcr rfl) ?_
         refine zaa rfl (zab) ?_
         refine zia 150 rfl (rfl) ?_
         refine zas rfl (zaa rfl (zab) (zas rfl ?_))
         have hch := zjb hP
         rw [hch6, zg6] at hch
         refine zat rfl (zao (by kernel_rfl) rfl) (hch) ?_
         rintro _ w152 ⟨⟨p7, c7, rfl, hsl7, _⟩, hb152⟩
         replace hLL := hLL.new hb152
         replace hM := hM.new hb152
         replace hP := hP.new hb152
         replace hw3 := hw3.new hb152
         refine zas rfl ?_
         refine zaa rfl (zaA (e := 3) (sz := 1) (by kernel_rfl) rfl rfl) ?_
         refine zas rfl (zaa rfl (zab) (zas rfl ?_))
         have hdi := zlM hP
         rw [hdi6, zg6] at hdi
         refine zat rfl (zao (by kernel_rfl) rfl) (hdi) ?_
         rintro _ w155 ⟨⟨p8, c8, rfl, hsl8, _⟩, hb155⟩
         replace hLL := hLL.new hb155
         replace hM := hM.new hb155
         replace hP := hP.new hb155
         replace hw3 := hw3.new hb155
         refine zas rfl ?_
         refine zaa rfl (zaA (e := 3) (sz := 1) (by kernel_rfl) rfl rfl) ?_
         refine zas rfl ?_
         refine zaa rfl (zaV rfl rfl (show IntKind.i64.wrap (((([] : List Int).length : Nat) : Int) + ((([] : List Int).length : Nat) : Int)) = 0 by decide)) ?_
         refine zas rfl ?_
         refine zaa rfl (zaW rfl rfl) ?_
         refine zaa rfl (zaz rfl) (zaf (zai ?_))
         refine zdT rfl ((by simp)) ?_
         refine zau (za2 (zai (zac (zaa rfl (zab) ?_))))
         refine zaa rfl (zaV rfl rfl (Coup.w64 (by omega))) ?_
         refine zaa rfl (zad) (zaf ?_)
         exact zbq ⟨(i + 1, qk, nk, ck), by show n - (i + 1) < n - i; omega, ⟨by go_num, rfl, rfl, rfl, rfl, rfl, rfl, rfl⟩, by show i + 1 ≤ n; omega, rfl, hw2, ⟨L3, P6.D, V4, P5.G.count, hP.dz, hrs6, hj6.dd, by show _ ≤ 2 + 40 * (i + 1); omega, hw3, hV4, hm6⟩, hLL⟩
      ·
       refine zbp (zbW (zb9 (zbw (zai (zak (zac ?_))))))
       refine zat rfl (zao (by kernel_rfl) rfl) (zfN wr) ?_
       rintro _ w160 ⟨rfl, hb160⟩
       replace hLL := hLL.new hb160
       replace hD := hD.new hb160
       replace hS := hS.new hb160
       refine zaa rfl (zad) (zaf (zai (zax ?_)))
       refine zar [_] ⟨rfl, trivial⟩ ?_
       exact ⟨rfl, hLL⟩
end Go.Proofs.YtielfpkjoidomaaGreat
