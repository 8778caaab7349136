import Derived.Test.YtielfpkjoidomaaGreatM5
import Derived.Test.YtielfpkjoidomaaGreatM2
import Derived.Test.YtielfpkjoidomaaGreatM4
namespace Go.Proofs.YtielfpkjoidomaaGreat
open Go Go.RowKit Coup
theorem PlJ.put {P : Pl} {V : Nat → Pg} {T : List (Nat × Rec)} (h : PlJ P V T) (hn : P.n ≤ 2048) (hR1 : ¬ (zaU P).length = 0) (hR2 : ¬ 60 < (zaU P).length) (hfit : zbK ((zaU P).length : Int) ≤ ((P.G.size - P.G.at_ : Nat) : Int)) :
  ((zbs P.D P.G (zaU P)).1 = 0 ∧ PlJ { za5 (zb7 P (zaU P)) (zaU P) with ch := noP } (zcl P V) (T ++ [(P.G.count, zaU P)]) ∧ (zb7 P (zaU P)).n = P.n) ∨
  ((zbs P.D P.G (zaU P)).1 = 10 ∧ (zb7 P (zaU P)).D.dead = true ∧ zcG (zb7 P (zaU P)).D ∧ zdt (zb7 P (zaU P)).D P.G.size P.n P.G.count (fun W => W = V ∨ W = zcl P V)) := by
 have hlg := h.ok.lg
 have hat := hlg.at_
 have hszm := hlg.szm
 have hcm := hlg.cm
 have hfD := hlg.fit
 have hf := h.fitN
 have hrw := ze4 P.G (R := zaU P) (by omega) (by omega)
 have hrl := zey P.G (zaU P)
 have hfit2 : P.G.at_ + (zc3 P.G (zaU P)).length ≤ P.G.size := by omega
 have hRm := zlb (P := P) (by omega) (by omega) hn
 have hRok := (zgw h.ok).1
 obtain ⟨hRf, hRo⟩ := zf8 P.G hRok
 have hgd : P.G.dead = false := by rw [h.g]; rfl
 have hgn : P.G.num = T.length := by rw [h.g]; rfl
 have hga : P.G.at_ = atT T := by rw [h.g]; rfl
 have hdk := dk_put h.on.ok h.on.short (1 + P.G.at_) (R := zc3 P.G (zaU P)) (by omega) hRo
 have hput := h.on.put (G := P.G) (r := zaU P) h.dd ⟨rfl, hgn, hga⟩ hcm hszm hRok hRm (by rw [← hga, ← hrl]; exact hfit2) hdk (fun p => zfk hdk p)
 have hpc := ze6 (zc3 P.G (zaU P)) (1 + P.G.at_) h.dd h.on.short (by omega)
 have hlen := zld P.D (1 + P.G.at_) (zc3 P.G (zaU P))
 have hcR : zbs P.D P.G (zaU P) = if (zcO P.D (1 + P.G.at_) (zc3 P.G (zaU P))).2 then (0, (zcO P.D (1 + P.G.at_) (zc3 P.G (zaU P))).1, { P.G with at_ := P.G.at_ + (zc3 P.G (zaU P)).length, num := P.G.num + 1 }) else (10, (zcO P.D (1 + P.G.at_) (zc3 P.G (zaU P))).1, { P.G with dead := true }) := by
  unfold zbs
  rw [if_neg (by rw [hgd]; simp), if_neg (by rw [hRm]; simp), if_neg (by omega)]
 obtain ⟨d1, d2, d3, d4, d5, d6, d7, d8⟩ := zcn (zaU P) (zb7 P (zaU P))
 rcases hput with ⟨u1, u2, u3⟩ | ⟨u1, u2, u3⟩
 ·left
  rw [if_pos u1] at hcR
  have eD : (zb7 P (zaU P)).D = (zcO P.D (1 + P.G.at_) (zc3 P.G (zaU P))).1 := by unfold zb7; rw [hcR]
  have eG : (zb7 P (zaU P)).G = { P.G with at_ := P.G.at_ + (zc3 P.G (zaU P)).length, num := P.G.num + 1 } := by unfold zb7; rw [hcR]
  have en : (zb7 P (zaU P)).n = P.n := by unfold Pl.n; rw [eD, eG, hlen]
  have en2 : (za5 (zb7 P (zaU P)) (zaU P)).n = P.n := d6.trans en
  have edi : ∀ n, (za5 (zb7 P (zaU P)) (zaU P)).di n = if n < P.n then (P.ch n).or (P.di n) else P.di n := fun n => by
   have := zhN P.ch P.n 0 (zb7 P (zaU P)) n
   unfold zaU at this ⊢
   rw [this]
   by_cases hnn : n < P.n
   ·rw [if_pos (by omega), if_pos hnn]; rfl
   ·rw [if_neg (by omega), if_neg hnn]; rfl
  have hrd : ∀ j, j < P.D.V.length → zaB (zb7 P (zaU P)).D j = if 1 + P.G.at_ ≤ j ∧ j < 1 + P.G.at_ + (zc3 P.G (zaU P)).length then (zc3 P.G (zaU P)).getD (j - (1 + P.G.at_)) zbv else zaB P.D j := by
   rw [eD]
   rcases hpc with ⟨_, _, _, p4⟩ | ⟨p1, _⟩
   ·exact p4
   ·rw [p1] at u1; cases u1
  refine ⟨by rw [hcR], ⟨⟨?_, by show 4 ≤ (za5 _ _).n; rw [en2]; exact h.ok.n4, by show 2 ≤ (za5 _ _).fr; rw [d3]; exact h.ok.fr2, by show (za5 _ _).fr ≤ 100; rw [d3]; exact h.ok.frm, (fun i b hb => nomatch hb), ?_, d7 h.ok.cl, by show (za5 _ _).cl.length ≤ (za5 _ _).fr; rw [d3]; exact Nat.le_trans d8 h.ok.cll⟩, by show (za5 _ _).dead = false; rw [d5]; exact h.de, by show (za5 _ _).D.dead = false; rw [d1, eD]; exact u2, ?_, ?_, ?_, ?_, ?_, ?_, ?_⟩, en⟩
  ·show zo1 (za5 _ _).D (za5 _ _).G
   rw [d1, d2, eD, eG]
   have hnum := hlg.num
   have hrl1 : 1 ≤ (zc3 P.G (zaU P)).length := by rw [hrl]; unfold zaY za1; omega
   exact ⟨hlg.s1, hlg.sc, hlg.cm, hlg.sz4, hlg.szm, hfit2, by show P.G.num + 1 ≤ P.G.at_ + _; omega, by rw [hlen]; exact hfD⟩
  ·intro i b hb
   have hb2 : (za5 (zb7 P (zaU P)) (zaU P)).di i = some b := hb
   rw [edi] at hb2
   split at hb2
   ·cases hc : P.ch i with
    | some x => rw [hc] at hb2; rw [← Option.some.inj hb2]; exact h.ok.ch i x hc
    | none => rw [hc] at hb2; exact h.ok.di i b hb2
   ·exact h.ok.di i b hb2
  ·show zcp (za5 _ _).D (za5 _ _).G.size (za5 _ _).G.count (za5 _ _).G.count (za5 _ _).G.since _
   rw [d1, d2, eD, eG]
   exact u3
  ·show (za5 _ _).G = gOf (za5 _ _).G.size (za5 _ _).G.count (za5 _ _).G.since _ false
   rw [d2, eG]
   show ({ P.G with at_ := P.G.at_ + (zc3 P.G (zaU P)).length, num := P.G.num + 1 } : Lg) = gOf P.G.size P.G.count P.G.since (T ++ [(P.G.count, zaU P)]) false
   unfold gOf
   rw [← hgd, List.length_append, List.length_singleton, ← hgn, show atT (T ++ [(P.G.count, zaU P)]) = P.G.at_ + (zc3 P.G (zaU P)).length by rw [hga, hrl]; simp [atT, atS]]
  ·intro i hin
   have hnn : i < P.n := by rw [← en2]; exact hin
   have e : ({ za5 (zb7 P (zaU P)) (zaU P) with ch := noP } : Pl).n = P.n := en2
   rw [e, List.map_append, List.map_singleton]
   have e1 : zbG P.n (T.map (·.2) ++ [zaU P]) = zc4 P.n (zbG P.n (T.map (·.2))) (zaU P) := by
    unfold zbG; rw [List.foldl_append]; rfl
   have e3 := ze8 P.n P.ch (zbG P.n (T.map (·.2))) P.n 0 (by omega) i
   rw [e1]
   show (za5 (zb7 P (zaU P)) (zaU P)).di i = zc4 P.n (zbG P.n (T.map (·.2))) ((zcA P.ch 0 P.n).map fun p => ⟨p.1, p.2⟩) i
   rw [edi, e3, if_pos hnn, if_pos (by omega), ← h.di i hnn]
  ·intro m b hb
   have hb2 : (za5 (zb7 P (zaU P)) (zaU P)).di m = some b := hb
   rw [edi] at hb2
   unfold zcl
   split
   ·rename_i hnn
    rw [if_pos hnn] at hb2
    cases hc : P.ch m with
    | some x => rw [hc] at hb2; exact Option.some.inj hb2
    | none => rw [hc] at hb2; exact h.dn m b hb2
   ·rename_i hnn
    rw [if_neg hnn] at hb2
    exact h.dn m b hb2
  ·intro c hc
   obtain ⟨c1, c2⟩ := zla (zaU P) (zb7 P (zaU P)) c hc
   obtain ⟨m, n1, n2, n3⟩ := h.cl c c1
   have hnc : m < P.n → P.ch m = none := fun hnn => by
    cases hcn : P.ch m with
    | none => rfl
    | some x =>
     have hm : (⟨(m : Int), x⟩ : Ch) ∈ zaU P := List.mem_map.2 ⟨(m, x), ziy hcn (Nat.zero_le _) (by omega), rfl⟩
     exact absurd n1 (c2 _ hm)
   refine ⟨m, n1, ?_, ?_⟩
   ·show (za5 (zb7 P (zaU P)) (zaU P)).di m = none
    rw [edi]
    split
    ·rw [hnc ‹_›]; exact n2
    ·exact n2
   ·unfold zcl
    split
    ·rw [hnc ‹_›]; exact n3
    ·exact n3
  ·intro m hin hdn
   have hnn : m < P.n := by rw [← en2]; exact hin
   have hb2 : (za5 (zb7 P (zaU P)) (zaU P)).di m = none := hdn
   rw [edi, if_pos hnn] at hb2
   show zbP (za5 _ _).D (1 + (za5 _ _).G.size + m * 4) = _
   rw [d1, d2, eG]
   show zbP (zb7 P (zaU P)).D (1 + P.G.size + m * 4) = _
   have e1 : zbP (zb7 P (zaU P)).D (1 + P.G.size + m * 4) = zbP P.D (1 + P.G.size + m * 4) := zb3 fun k hk => by
    rw [hrd _ (by omega), if_neg (by omega)]
   unfold zcl
   rw [if_pos hnn, e1]
   cases hc : P.ch m with
   | some x => rw [hc] at hb2; cases hb2
   | none =>
    rw [hc] at hb2
    exact h.pg m hnn hb2
  ·intro m hin
   have hnn : m < P.n := by rw [← en2]; exact hin
   unfold zcl
   rw [if_pos hnn]
   cases hc : P.ch m with
   | some x => exact h.ok.ch m x hc
   | none => exact h.ln m hnn
 ·right
  rw [if_neg (by rw [u1]; simp)] at hcR
  have eD : (zb7 P (zaU P)).D = (zcO P.D (1 + P.G.at_) (zc3 P.G (zaU P))).1 := by unfold zb7; rw [hcR]
  refine ⟨by rw [hcR], by rw [eD]; exact u2, by rw [eD]; exact hdk, fun p => ?_⟩
  rw [eD]
  have hv : ∀ j, ¬ (1 + P.G.at_ ≤ j ∧ j < 1 + P.G.at_ + (zc3 P.G (zaU P)).length) → ver (zcO P.D (1 + P.G.at_) (zc3 P.G (zaU P))).1 j = ver P.D j := fun j hj => by
   rcases hpc with ⟨p1, _⟩ | ⟨_, _, p3⟩
   ·rw [u1] at p1; cases p1
   ·rcases p3 j with e | ⟨e1, e2, _⟩
    ·exact e
    ·exact absurd ⟨e1, e2⟩ hj
  have hpgs : ∀ i, i < P.n → zbP (zbh (zcO P.D (1 + P.G.at_) (zc3 P.G (zaU P))).1 p) (1 + P.G.size + i * 4) = zbP P.D (1 + P.G.size + i * 4) := fun i hi => zb3 fun k hk => zek h.on.short (by omega) (hv _ (by omega)) p
  have hcl : (zbh (zcO P.D (1 + P.G.at_) (zc3 P.G (zaU P))).1 p).V.length = P.D.V.length := by rw [zbZ, hlen]
  rcases u3 p with s4 | s4
  ·refine ⟨P.G.count, V, Nat.le_refl _, .inl rfl, P.G.since, T, s4, by rw [hcl]; exact hf, fun i hi => ?_⟩
   rw [hpgs i hi, ← h.di i hi]
   cases hd : P.di i with
   | some b => exact (h.dn i b hd).symm
   | none => exact h.pg i hi hd
  ·refine ⟨P.G.count, zcl P V, Nat.le_refl _, .inr rfl, P.G.since, T ++ [(P.G.count, zaU P)], s4, by rw [hcl]; exact hf, fun i hi => ?_⟩
   have e1 : zbG P.n (T.map (·.2) ++ [zaU P]) = zc4 P.n (zbG P.n (T.map (·.2))) (zaU P) := by
    unfold zbG; rw [List.foldl_append]; rfl
   have e3 := ze8 P.n P.ch (zbG P.n (T.map (·.2))) P.n 0 (by omega) i
   have e2 : zc4 P.n (zbG P.n (T.map (·.2))) (zaU P) i = (P.ch i).or (P.di i) := by
    show zc4 P.n (zbG P.n (T.map (·.2))) ((zcA P.ch 0 P.n).map fun p => ⟨p.1, p.2⟩) i = _
    rw [e3, if_pos (by omega), ← h.di i hi]
   rw [hpgs i hi, List.map_append, List.map_singleton, e1, e2]
   unfold zcl
   rw [if_pos hi]
   cases hc : P.ch i with
   | some x => rfl
   | none =>
    cases hd : P.di i with
    | some b => exact (h.dn i b hd).symm
    | none => exact h.pg i hi hd
def zmL (P : Pl) : Int := if (zaU P).length = 0 then 0 else if 60 < (zaU P).length then 3 else if (P.G.size : Int) < zbK ((zaU P).length : Int) then 8 else 0
theorem zlg {P : Pl} : zaU { P with ch := noP } = [] := by
 have e : ∀ m a, zcA noP a m = [] := fun m => by
  induction m with
  | zero => intro a; rfl
  | succ m ih => intro a; rw [zcA]; exact ih (a + 1)
 show (zcA noP 0 _).map _ = []
 rw [e]; rfl
theorem PlJ.commit {P : Pl} {V : Nat → Pg} {T : List (Nat × Rec)} (h : PlJ P V T) (hc : P.G.count < 4611686018427387904) (hn : P.n ≤ 2048) :
  ((zaC P).1 = zmL P ∧ (∃ T', PlJ (zaC P).2 (zcv P V) T') ∧ (zaC P).2.G.count ≤ P.G.count + 1 ∧ (zaC P).2.n = P.n ∧ (zaC P).2.G.size = P.G.size ∧ zaU (zaC P).2 = if (zaC P).1 = 0 then [] else zaU P) ∨
  ((zaC P).1 = 10 ∧ zmL P = 0 ∧ (zaC P).2.D.dead = true ∧ (zaC P).2.dead = true ∧ zcG (zaC P).2.D ∧ zdt (zaC P).2.D P.G.size P.n (P.G.count + 1) (fun W => W = V ∨ W = zcl P V)) := by
 unfold zcv
 by_cases h0 : (zaU P).length = 0
 ·have e : zaC P = (0, P) := by unfold zaC; rw [if_pos h0]
  rw [e, if_pos rfl, zkj h0]
  exact .inl ⟨by unfold zmL; rw [if_pos h0], ⟨T, h⟩, Nat.le_succ _, rfl, rfl, by rw [if_pos rfl]; exact List.eq_nil_of_length_eq_zero h0⟩
 by_cases h60 : 60 < (zaU P).length
 ·have e : zaC P = (3, P) := by unfold zaC; rw [if_neg h0, if_pos h60]
  rw [e, if_neg (by simp)]
  exact .inl ⟨by unfold zmL; rw [if_neg h0, if_pos h60], ⟨T, h⟩, Nat.le_succ _, rfl, rfl, (if_neg (show ¬ (3 : Int) = 0 by decide)).symm⟩
 by_cases hsz : (P.G.size : Int) < zbK ((zaU P).length : Int)
 ·have e : zaC P = (8, P) := by unfold zaC; rw [if_neg h0, if_neg h60, if_pos hsz]
  rw [e, if_neg (by simp)]
  exact .inl ⟨by unfold zmL; rw [if_neg h0, if_neg h60, if_pos hsz], ⟨T, h⟩, Nat.le_succ _, rfl, rfl, (if_neg (show ¬ (8 : Int) = 0 by decide)).symm⟩
 have hcC : zmL P = 0 := by unfold zmL; rw [if_neg h0, if_neg h60, if_neg hsz]
 have hsl := zcc P
 have hroom : ((zbi P).1 = 0 ∧ (∃ T2, PlJ (zbi P).2 V T2) ∧ zaU (zbi P).2 = zaU P ∧ zbK ((zaU P).length : Int) ≤ (((zbi P).2.G.size - (zbi P).2.G.at_ : Nat) : Int) ∧ (zbi P).2.ch = P.ch ∧ (zbi P).2.n = P.n ∧ (zbi P).2.G.size = P.G.size ∧ (zbi P).2.G.count ≤ P.G.count + 1) ∨
   ((zbi P).1 = 10 ∧ (zbi P).2.D.dead = true ∧ zcG (zbi P).2.D ∧ zdt (zbi P).2.D P.G.size P.n (P.G.count + 1) (· = V)) := by
  unfold zbi
  split
  ·rcases h.settle hc hn with ⟨s1, s2, s3, s4⟩ | ⟨s1, s2, s3, s4⟩
   ·refine .inl ⟨s1, ⟨[], s2⟩, by unfold zaU; rw [hsl.2.2.1, hsl.2.2.2.2.2.2], ?_, hsl.2.2.1, hsl.2.2.2.2.2.2, hsl.2.1, by rw [s4]; exact Nat.le_refl _⟩
    rw [s4]
    show _ ≤ ((P.G.size - 0 : Nat) : Int)
    omega
   ·exact .inr ⟨s1, s2, s3, s4⟩
  ·rename_i hr
   exact .inl ⟨rfl, ⟨T, h⟩, rfl, Int.not_lt.1 hr, rfl, rfl, rfl, Nat.le_succ _⟩
 rcases hroom with ⟨r1, ⟨T2, r2⟩, r3, r4, r5, r6, r7, r8⟩ | ⟨r1, r2, r3, r4⟩
 ·have hpt := r2.put (by rw [r6]; exact hn) (by rw [r3]; exact h0) (by rw [r3]; exact h60) (by rw [r3]; exact r4)
  have ev : zcl (zbi P).2 V = zcl P V := by unfold zcl; rw [r5, r6]
  rw [r3, ev, r6, r7] at hpt
  rcases hpt with ⟨p1, p2, p3⟩ | ⟨p1, p2, p3, p4⟩
  ·have e : zaC P = (0, { za5 (zb7 (zbi P).2 (zaU P)) (zaU P) with ch := noP }) := by
    unfold zaC
    rw [if_neg h0, if_neg h60, if_neg hsz, if_pos r1, if_pos p1]
   obtain ⟨d1, d2, d3, d4, d5, d6, d7, d8⟩ := zcn (zaU P) (zb7 (zbi P).2 (zaU P))
   rw [e, if_pos rfl]
   have hps : (zb7 (zbi P).2 (zaU P)).G.size = (zbi P).2.G.size := by
    unfold zb7; exact (zdk _ _ _).2
   refine .inl ⟨hcC.symm, ⟨_, p2⟩, ?_, ?_, ?_, ?_⟩
   ·show (za5 _ _).G.count ≤ _
    rw [d2]
    have : (zb7 (zbi P).2 (zaU P)).G.count = (zbi P).2.G.count := by
     unfold zb7 zbs
     dsimp only
     split
     ·rfl
     ·split
      ·rfl
      ·split
       ·rfl
       ·split <;> rfl
    rw [this]; exact r8
   ·show (za5 _ _).n = P.n
    rw [d6]; exact p3
   ·show (za5 _ _).G.size = P.G.size
    rw [d2, hps, r7]
   ·exact zlg
  ·have e : zaC P = (10, keepR 10 (zb7 (zbi P).2 (zaU P))) := by
    unfold zaC
    rw [if_neg h0, if_neg h60, if_neg hsz, if_pos r1, if_neg (by rw [p1]; decide), p1]
   rw [e]
   refine .inr ⟨rfl, hcC, p2, by show ((zb7 _ _).dead || decide ((10 : Int) = 10)) = true; simp, p3, fun p => ?_⟩
   obtain ⟨c, W, hcb, hW, hr⟩ := p4 p
   exact ⟨c, W, by omega, hW, hr⟩
 ·have e : zaC P = (10, keepR 10 (zbi P).2) := by
   unfold zaC
   rw [if_neg h0, if_neg h60, if_neg hsz, if_neg (by rw [r1]; decide), r1]
  rw [e]
  refine .inr ⟨rfl, hcC, r2, by show ((zbi P).2.dead || decide ((10 : Int) = 10)) = true; simp, r3, fun p => ?_⟩
  obtain ⟨c, W, hcb, hW, hr⟩ := r4 p
  exact ⟨c, W, hcb, .inl hW, hr⟩
theorem atT_eq (T : List (Nat × Rec)) : atS (T.map (·.2)) = atT T := rfl
theorem zfm.opens {D : Dk} {n N c fr : Nat} {V : Nat → Pg} (h : zfm D n N c V) (hd : D.dead = false) (hN : zfr D.V.length (n : Int) = N) (hN4 : 4 ≤ N) (hN2 : N ≤ 2048) (hc : c + 2 < 4611686018427387904) (h2 : 2 ≤ fr) (hm : fr ≤ 100) (hV : ∀ i, i < N → (V i).length = 512) :
    ze1 D (n : Int) = 0 ∧ hdC (zaB D 0) = c ∧ zcG D ∧ zbf D 1 ∧
    ((zcY D (hdC (zaB D 0) + 1) (hdS (zaB D 0)) = false ∧ (zbt D (hdC (zaB D 0) + 1) (hdS (zaB D 0))).dead = true ∧ zcG (zbt D (hdC (zaB D 0) + 1) (hdS (zaB D 0))) ∧ zdt (zbt D (hdC (zaB D 0) + 1) (hdS (zaB D 0))) n N (c + 2) (· = V)) ∨
     (zcY D (hdC (zaB D 0) + 1) (hdS (zaB D 0)) = true ∧
      (((zc5 D n fr).1 = 0 ∧ (∃ T, PlJ (zc5 D n fr).2 V T) ∧ (zc5 D n fr).2.ch = noP ∧ (zc5 D n fr).2.di = noP ∧ (zc5 D n fr).2.n = N ∧ (zc5 D n fr).2.G.size = n ∧ (zc5 D n fr).2.G.count ≤ c + 2 ∧ (zc5 D n fr).2.fr = fr ∧ (zc5 D n fr).2.D.V.length = D.V.length) ∨
       ((zc5 D n fr).1 = 10 ∧ (zc5 D n fr).2.D.dead = true ∧ zcG (zc5 D n fr).2.D ∧ zdt (zc5 D n fr).2.D n N (c + 2) (· = V))))) := by
  obtain ⟨s, T, hon, hlen, hpg⟩ := h
  have hfit := zjd (n := (n : Int)) (l := D.V.length) (by rw [hN]; exact hN4)
  rw [Int.toNat_natCast] at hfit
  have hs1 := hon.inv.s1
  have hsc := hon.inv.sc
  obtain ⟨e1, e2, e3⟩ := zhK (D := D) (c := c) (s := s) (n := (n : Int)) (decide_eq_true (by omega)) hon.head hs1 hsc (by omega)
  rw [e2, e3]
  have hds := zle hon.ok hon.short (by omega) (c + 1) s
  have hsl := zdj D (c + 1) s
  have hsave := hon.save (c' := c + 1) (cx' := c + 1) (s' := s) (T' := T) hd hds (fun p => zfk hds p) (fun hi => hi.up (by omega) (by omega))
  obtain ⟨sp1, sp2⟩ := zjh D (c + 1) s
  have hpc := ze6 [zbO (c + 1) s] 0 hd hon.short (by simp; omega)
  rw [← sp1, ← sp2] at hpc
  refine ⟨e1, rfl, hon.ok, hon.short, ?_⟩
  rcases hsave with ⟨s1, s2, s3⟩ | ⟨s1, s2, s3⟩
  · right
    refine ⟨s1, ?_⟩
    have hHG : zdr D (n : Int) = ⟨c, s, n, 0, 0, false⟩ := by rw [zdr, e2, e3, Int.toNat_natCast]
    have hrec : zck D (zdr D (n : Int)) = T.map (·.2) := by
      rw [hHG, zck]
      exact hon.inv.recs (by omega) (by omega)
    have hok0 := zke hon.ok (n := n) (fr := fr) e1 (by rw [hN]; exact hN4) h2 hm
    have hall := zgx (G := zdr D (n : Int)) hon.ok (by rw [hHG]; exact hon.len)
    have hn0 : (zbj D n fr).n = N := (zjc _ _ _).trans hN
    have hdi0 : (zbj D n fr).di = zbG N (T.map (·.2)) := by
      unfold zbj; dsimp only; rw [hrec, hN]
    have hD0 : (zbj D n fr).D = zbt D (c + 1) s := by unfold zbj; dsimp only; rw [e2, e3]
    have hG0 : (zbj D n fr).G = gOf n (c + 1) s T false := by
      unfold zbj gOf
      dsimp only
      rw [e2, e3, hrec, List.length_map, atT_eq]
    have hpg3 : ∀ i, i < N → zbP (zbt D (c + 1) s) (1 + n + i * 4) = zbP D (1 + n + i * 4) := fun i hi => by
      rcases hpc with ⟨_, _, _, p4⟩ | ⟨p1, _⟩
      · exact zb3 fun k hk => by rw [p4 _ (by omega), if_neg (by simp)]
      · rw [p1] at s1; cases s1
    have hJ : PlJ (zbj D n fr) V T := by
      refine ⟨hok0, rfl, by rw [hD0]; exact s2, by rw [hD0, hG0]; exact s3, by rw [hG0]; rfl, fun i _ => by rw [hdi0, hn0], fun i b hb => ?_, (fun c hc => nomatch hc), fun i hin hdn => ?_, fun i hin => hV i (by rw [← hn0]; exact hin)⟩
      · rw [hdi0] at hb
        by_cases hin : i < N
        · have := hpg i hin
          rw [hb] at this
          exact this.symm
        · have hbig := ziB (Nat.not_lt.1 hin) (T.map (·.2)) noP (by rw [← hrec]; exact fun r hr c hc => (hall.2.2 r hr).num c hc)
          unfold zbG at hb
          rw [hbig] at hb
          cases hb
      · rw [hn0] at hin
        rw [hdi0] at hdn
        have := hpg i hin
        rw [hdn] at this
        rw [hD0, hG0]
        exact (hpg3 i hin).trans this
    unfold zc5
    by_cases hS : (zck D (zdr D (n : Int))).length = 0
    · rw [if_pos hS]
      have hT0 : T.map (·.2) = [] := by rw [← hrec]; exact List.eq_nil_of_length_eq_zero hS
      exact .inl ⟨rfl, ⟨T, hJ⟩, rfl, by show (zbj D n fr).di = noP; rw [hdi0, hT0]; rfl, hn0, by show (zbj D n fr).G.size = n; rw [hG0]; rfl, by show (zbj D n fr).G.count ≤ _; rw [hG0]; show c + 1 ≤ c + 2; omega, rfl, by show (zbj D n fr).D.V.length = _; rw [hD0, hsl]⟩
    · rw [if_neg hS]
      have hch : (zcA (zbj D n fr).ch 0 (zbj D n fr).n).length = 0 := by
        have e : ∀ m a, zcA noP a m = [] := fun m => by
          induction m with
          | zero => intro a; rfl
          | succ m ih => intro a; rw [zcA]; exact ih (a + 1)
        show (zcA noP 0 _).length = 0
        rw [e]; rfl
      have ec : zbk (zbj D n fr) = ((zaK (zbj D n fr)).1, keepR (zaK (zbj D n fr)).1 (zaK (zbj D n fr)).2) := by unfold zbk; rw [if_pos hch]
      have hcnt : (zbj D n fr).G.count = c + 1 := by rw [hG0]; rfl
      have hsz : (zbj D n fr).G.size = n := by rw [hG0]; rfl
      obtain ⟨l1, l2, l3, l4, l5, l6, l7⟩ := zcc (zbj D n fr)
      rw [ec]
      rcases hJ.settle (by rw [hcnt]; omega) (by rw [hn0]; exact hN2) with ⟨t1, t2, t3, t4⟩ | ⟨t1, t2, t3, t4⟩
      · left
        have ek : keepR (zaK (zbj D n fr)).1 (zaK (zbj D n fr)).2 = (zaK (zbj D n fr)).2 := by
          unfold keepR
          rw [t1, t2.de]
          have := t2.de
          show ({ (zaK (zbj D n fr)).2 with dead := false } : Pl) = _
          rw [← this]
        dsimp only
        rw [ek]
        exact ⟨t1, ⟨[], t2⟩, l3, t3, l7.trans hn0, l2.trans hsz, by rw [t4]; show (zbj D n fr).G.count + 1 ≤ _; rw [hcnt]; omega, l5, l1.trans (by rw [hD0, hsl])⟩
      · right
        rw [hsz, hn0, hcnt] at t4
        exact ⟨t1, t2, t3, t4⟩
  · left
    refine ⟨s1, s2, hds, fun p => ?_⟩
    rcases hpc with ⟨p1, _⟩ | ⟨_, _, p3⟩
    · rw [s1] at p1; cases p1
    · have hpg3 : ∀ i, i < N → zbP (zbh (zbt D (c + 1) s) p) (1 + n + i * 4) = zbP D (1 + n + i * 4) := fun i hi => by
        refine zb3 fun k hk => zek hon.short (by omega) ?_ p
        rcases p3 (1 + n + i * 4 + k) with e | ⟨_, e, _⟩
        · exact e
        · simp at e
      have hcl : (zbh (zbt D (c + 1) s) p).V.length = D.V.length := by rw [zbZ, hsl]
      rcases s3 p with s4 | s4
      · exact ⟨c, V, by omega, rfl, s, T, s4, by rw [hcl]; exact hlen, fun i hi => by rw [hpg3 i hi]; exact hpg i hi⟩
      · exact ⟨c + 1, V, by omega, rfl, s, T, s4.up (c' := 0) (by omega), by rw [hcl]; exact hlen, fun i hi => by rw [hpg3 i hi]; exact hpg i hi⟩
theorem zfm.fuse {D : Dk} {n N c : Nat} {V : Nat → Pg} (h : zfm D n N c V) (k : Int) : zfm (zjL D k) n N c V := by
 obtain ⟨s, T, hon, hlen, hpg⟩ := h
 have hV : (zjL D k).V = D.V := by unfold zjL; split <;> rfl
 refine ⟨s, T, hon.near2 (dk_V hon.ok hV) (by rw [hV]) (fun v hv => hon.short v (by rw [← hV]; exact hv)) fun j _ => by rw [zaB, zaB, zoh hV], by rw [hV]; exact hlen, fun i hi => ?_⟩
 have e : zbP (zjL D k) (1 + n + i * 4) = zbP D (1 + n + i * 4) := zb3 fun k _ => by rw [zaB, zaB, zoh hV]
 rw [e]; exact hpg i hi
theorem zfm.crash {D : Dk} {n N c : Nat} {V : Nat → Pg} (h : zfm D n N c V) : zdt D n N c (· = V) := fun p => by
 obtain ⟨s, T, hon, hlen, hpg⟩ := h
 refine ⟨c, V, Nat.le_refl _, rfl, s, T, hon.crash p (zfk hon.ok p), by rw [zbZ]; exact hlen, fun i hi => ?_⟩
 have e : zbP (zbh D p) (1 + n + i * 4) = zbP D (1 + n + i * 4) := zb3 fun k hk => zek hon.short (by omega) rfl p
 rw [e]; exact hpg i hi
theorem PlJ.crash {P : Pl} {V : Nat → Pg} {T : List (Nat × Rec)} (h : PlJ P V T) : zdt P.D P.G.size P.n P.G.count (· = V) := h.rest.crash
structure TH where
 Z : World → List Nat → Prop
 t : Thing Z
def Parts : List TH → World → List Nat → Prop
 | [], _, C => C = []
 | X :: l, w, C => ∃ B E, C = B ++ E ∧ X.Z w B ∧ Parts l w E ∧ ∀ b ∈ B, b ∉ E
theorem zge : ∀ (l : List TH) {w w' : World} {B M : List Nat}, Parts l w B → Kp M w w' → (∀ b ∈ B, b ∉ M) → Parts l w' B
 | [], _, _, _, _, h, _, _ => h
 | X :: l, w, w', B, M, ⟨B1, E, e, h1, h2, h3⟩, k, hM => ⟨B1, E, e, X.t.kpd h1 k fun b hb => hM b (by rw [e]; exact List.mem_append_left _ hb), zge l h2 k fun b hb => hM b (by rw [e]; exact List.mem_append_right _ hb), h3⟩
theorem zjk : ∀ (l : List TH) {w : World} {B : List Nat}, Parts l w B → ∀ b ∈ B, b < w.heap.size
 | [], _, _, h, b, hb => by rw [h] at hb; cases hb
 | X :: l, w, B, ⟨B1, E, e, h1, h2, h3⟩, b, hb => by
  rw [e] at hb
  exact (List.mem_append.1 hb).elim (X.t.lt h1 b) (zjk l h2 b)
instance (l : List TH) : Thing (Parts l) := ⟨fun h k hM => zge l h k hM, fun h b hb => zjk l h b hb⟩
structure AtZ (l : List TH) (lo : Nat) (L : List Nat) (w : World) : Prop where
 ex : ∃ C, Parts l w C ∧ ∀ b ∈ C, lo ≤ b ∧ b ∉ L
 lo : lo ≤ w.heap.size
 lt : ∀ b ∈ L, b < w.heap.size
namespace AtZ
variable {l l' : List TH} {X : TH} {lo : Nat} {L L2 : List Nat} {w w' : World}
theorem two (h : AtZ (X :: l) lo L w) : Two X.Z (Parts l) lo L w := by
 obtain ⟨⟨C, ⟨B, E, e, h1, h2, h3⟩, h4⟩, h5, h6⟩ := h
 subst e
 exact ⟨⟨B, E, h1, h2, fun b hb => ⟨(h4 b (List.mem_append_left _ hb)).1, h3 b hb, (h4 b (List.mem_append_left _ hb)).2⟩, fun b hb => h4 b (List.mem_append_right _ hb)⟩, h5, h6⟩
theorem weak (h : AtZ l lo L w) (h2 : ∀ b ∈ L2, b ∈ L) : AtZ l lo L2 w := by
 obtain ⟨⟨C, h1, h3⟩, h4, h5⟩ := h
 exact ⟨⟨C, h1, fun b hb => ⟨(h3 b hb).1, fun hm => (h3 b hb).2 (h2 b hm)⟩⟩, h4, fun b hb => h5 b (h2 b hb)⟩
theorem kpd {M : List Nat} (h : AtZ l lo L w) (k : Kp M w w') (hM : ∀ b ∈ M, b < lo ∨ b ∈ L) : AtZ l lo L w' := by
 obtain ⟨⟨C, h1, h3⟩, h4, h5⟩ := h
 exact ⟨⟨C, zge l h1 k fun b hb hm => (hM b hm).elim (fun hl => absurd (h3 b hb).1 (Nat.not_le.2 hl)) (h3 b hb).2, h3⟩, Nat.le_trans h4 k.size, fun b hb => Nat.lt_of_lt_of_le (h5 b hb) k.size⟩
theorem new (h : AtZ l lo L w) (hb : Below w.heap.size w w') : AtZ l lo L w' := h.kpd (M := []) (Kp.of_below hb) (by simp)
theorem only {gc : Nat} (h : AtZ l lo L w) (ho : Only gc w w') (hg : gc < lo ∨ gc ∈ L) : AtZ l lo L w' := h.kpd (Kp.zbx ho) fun b hb => by rw [List.mem_singleton.1 hb]; exact hg
theorem newc {gc : Nat} (h : AtZ l lo L w) (hb : Below w.heap.size w w') (hg : w.heap.size ≤ gc) (hg' : gc < w'.heap.size) : AtZ l lo (gc :: L) w' := by
 have h2 := h.new hb
 obtain ⟨⟨C, h1, h3⟩, h4, h5⟩ := h
 obtain ⟨⟨C', h6, h7⟩, h8, h9⟩ := h2
 refine ⟨⟨C, zge l h1 (M := []) (Kp.of_below hb) (fun _ _ => by simp), fun b hm => ⟨(h3 b hm).1, fun hx => ?_⟩⟩, h8, fun b hm => ?_⟩
 ·rcases List.mem_cons.1 hx with rfl | hx
  ·exact absurd (zjk l h1 _ hm) (Nat.not_lt.2 hg)
  ·exact (h3 b hm).2 hx
 ·rcases List.mem_cons.1 hm with rfl | hm
  ·exact hg'
  ·exact h9 b hm
end AtZ
abbrev dzT (g : Nat) (D : Dk) : TH := ⟨DZ g D, inferInstance⟩
def PR (g q : Nat) (P : Pl) : World → List Nat → Prop := fun w C => ∃ x mc md cv, C = x :: (cv.ownBlock.toList ++ [q, mc, md]) ∧ Coup.row w x (lgV g P.G) 109 ∧
 Coup.row w q (plV g x P.G.size P.fr mc md cv P.dead) 54 ∧ MapAt Tryz.prog 3 w mc P.n (zeA P.ch) ∧ MapAt Tryz.prog 3 w md P.n (zeA P.di) ∧ zaJ w 0 73 513 cv P.cl.length (zbT P.cl) ∧
 x ∉ cv.ownBlock.toList ++ [q, mc, md] ∧ q ≠ mc ∧ q ≠ md ∧ mc ≠ md ∧ ∀ b ∈ cv.ownBlock.toList, b ≠ q ∧ b ≠ mc ∧ b ≠ md
instance (g q : Nat) (P : Pl) : Thing (PR g q P) :=
 ⟨fun {w w' B M} ⟨x, mc, md, cv, e, h2, h3, h4, h5, h6, h7⟩ k hM => by
   subst e
   exact ⟨x, mc, md, cv, rfl, h2.kpd k (hM x (by simp)), h3.kpd k (hM q (by simp)), h4.kpd k (hM mc (by simp)), h5.kpd k (hM md (by simp)), h6.kpd k (fun b hb e => hM b (by simp [e]) hb), h7⟩,
  fun {w B} ⟨x, mc, md, cv, e, h2, h3, h4, h5, h6, h7⟩ b hb => by
   subst e
   simp only [List.mem_append, List.mem_cons, List.not_mem_nil, or_false] at hb
   rcases hb with rfl | hb | rfl | rfl | rfl
   ·exact h2.lt
   ·exact (h6.lt b (Option.mem_toList.1 hb)).2
   ·exact h3.lt
   ·exact h4.lt
   ·exact h5.lt⟩
abbrev prT (g q : Nat) (P : Pl) : TH := ⟨PR g q P, inferInstance⟩
section
variable {g q lo : Nat} {L : List Nat} {P : Pl} {w w' : World} {l : List TH}
end
section
variable {g q lo : Nat} {L : List Nat} {P : Pl} {V : Nat → Pg} {k : Nat} {w : World} {l : List TH}
end
end Go.Proofs.YtielfpkjoidomaaGreat
namespace Go.Proofs.YtielfpkjoidomaaGreat
open Go Go.RowKit Coup Go.ChangeShapes Go.WideShapes Go.Deep
structure zko where
 kind : Int
 n : Int
 many : Int
 b : List UInt8
def PsQ (W : World) (a : zko) (cs : List Value) : Prop := ∃ q cp, cs = [.int .i64 a.kind, .int .i64 a.n, .int .i64 a.many, .slice q a.b.length cp] ∧ za9 W q a.b.length 1 (bv a.b) ∧ zku a.kind ∧ zku a.n ∧ zku a.many
theorem psQ_opn {H : Type} {enc : TypeId × Value → H} {W : World} {base : Nat} {spare : Nat → Bool} {held : Bool} : Opn enc Tryz.prog W base spare held 33 (PsQ W) := fun fuel cs x h => by
 obtain ⟨hl, m, hf⟩ := zlG Tryz.underlying33 h
 have hl2 : cs.length = 4 := hl.trans (by kernel_rfl)
 obtain ⟨_, h0⟩ := fld hf 0 0 1 rfl rfl (by kernel_rfl)
 obtain ⟨_, h1⟩ := fld hf 1 1 1 rfl rfl (by kernel_rfl)
 obtain ⟨_, h2⟩ := fld hf 2 2 1 rfl rfl (by kernel_rfl)
 obtain ⟨_, h3⟩ := fld hf 3 3 1 rfl rfl (by kernel_rfl)
 obtain ⟨a, e0, w0⟩ := zgs (by kernel_rfl) _ _ _ h0
 obtain ⟨b, e1, w1⟩ := zgs (by kernel_rfl) _ _ _ h1
 obtain ⟨c, e2, w2⟩ := zgs (by kernel_rfl) _ _ _ h2
 obtain ⟨R, q, cp, e3, hcp, hR⟩ := zhx (e := 5) (n := 1) (by kernel_rfl) (by kernel_rfl) (zgs (k := .u8) (by kernel_rfl)) _ _ _ h3
 obtain ⟨l, hll, hl4⟩ := zny hR
 refine ⟨⟨a, b, c, l⟩, q, cp, ?_, by rw [hll]; exact hl4, zeU w0, zeU w1, zeU w2⟩
 have k0 := zhy cs 0 1
 have k1 := zhy cs 1 1
 have k2 := zhy cs 2 1
 have k3 := zhy cs 3 1
 rw [e0] at k0
 rw [e1] at k1
 rw [e2] at k2
 rw [e3, List.drop_of_length_le (l := cs) (i := 3 + 1) (by omega), List.append_nil] at k3
 rw [k3] at k2
 rw [k2] at k1
 rw [k1] at k0
 rw [List.drop_zero] at k0
 rw [hll]
 exact k0
theorem PsQ.below {w w' : World} {a : zko} {cs : List Value} (h : PsQ w a cs) (hb : Below w.heap.size w w') : PsQ w' a cs := by
 obtain ⟨q, cp, h1, h2, h3⟩ := h
 exact ⟨q, cp, h1, h2.below hb (Nat.le_refl _), h3⟩
theorem zpn {w w' : World} {p : Option Addr} {n : Nat} {R : List zko} (h : zdv (PsQ w) w 4 p n R) (hb : Below w.heap.size w w') : zdv (PsQ w') w' 4 p n R := h.to hb fun _ _ hq => hq.below hb
def fewP (R : List zko) (most : Nat) : Prop := R.length ≤ most ∧ ∀ a ∈ R, a.b.length ≤ 600
set_option maxRecDepth 20000 in
theorem few06 (p : Option Addr) (n cp most : Nat) (R : List zko) (w : World) (h : zdv (PsQ w) w 4 p n R) (hm : most ≤ 1000) :
   Calls Tryz.prog 9 [.slice p n cp, .int .i64 (most : Int)].toArray w (Ret fun v w' => ∃ B : Bool, v = .bool B ∧ (B = true → fewP R most) ∧ w = w') := by
 have hmax := h.max
 have hml : maxLen = 9223372036854775807 := by decide
 have hRl := h.1
 refine zaw (fn := Tryz.f9) (rs := [.tmp 4]) (n := 28) Tryz.func9 rfl rfl Tryz.ntmps9 (by kernel_rfl) rfl ?_
 refine zak (zac (zaa rfl (zad) (zaf (zai (zak (zak (zac (zaa rfl (zad) (zaf (zai (zaD ?_)))))))))))
 refine zbF (α := Nat) 0 (fun i => [(5, .int .i64 (i : Nat)), (0, .slice p n cp), (1, .int .i64 (most : Int))]) (fun i w' => i ≤ n ∧ (∀ (j : Nat) (a : zko), j < i → R[j]? = some a → a.b.length ≤ 600) ∧ w = w') (fun i => n - i)
   ⟨rfl, rfl, rfl, rfl⟩ ⟨Nat.zero_le _, (by intro j x hj; exact absurd hj (Nat.not_lt_zero _)), rfl⟩ ?_
 rintro i f wr ⟨hi, hall, rfl⟩
 refine zak (zak (zac (zaa rfl (zab) (zaa rfl (zab) ?_))))
 refine zaa rfl (zaA (e := 33) (sz := 4) (by kernel_rfl) rfl rfl) ?_
 refine zaa rfl (zbd rfl rfl) ?_
 refine zaa rfl (zab) ?_
 refine zbJ 10 rfl (fun hlt => ?_) (fun hlt => ?_)
 ·
  refine zas rfl (zaa rfl (zab) (zas rfl (zaa rfl (zab) (zas rfl ?_))))
  refine zaa rfl (zhf rfl rfl) ?_
  refine zaa rfl (zay rfl) (zaf (zai ?_))
  refine zaZ rfl (fun hle => ?_) (fun hle => ?_)
  ·
   refine zau (zai (zak (zaD (zak ?_))))
   have hobt := h.get (i := i) (by omega)
   obtain ⟨a, hx⟩ := hobt
   have hobt := h.some (by omega)
   obtain ⟨gp, op, rfl, _⟩ := hobt
   have hle := h.el hx
   obtain ⟨cs, ⟨q, c1, rfl, hq1, _⟩, hcl, hce⟩ := hle
   refine zac (zaa rfl (zab) (zaa rfl (zab) ?_))
   refine zaa rfl (zaQ (e := 33) (sz := 4) (by kernel_rfl) rfl rfl (i) (by omega) (by omega)) ?_
   refine zaa rfl (zaj (off := 3) (by kernel_rfl) rfl) ?_
   refine zaa rfl (zam rfl (Ld.one (by kernel_rfl) (hce 3 _ rfl))) ?_
   refine zaa rfl (zaA (e := 5) (sz := 1) (by kernel_rfl) rfl rfl) ?_
   refine zaa rfl (zbU rfl rfl) ?_
   refine zaf (zai ?_)
   refine zaZ rfl (fun h600 => ?_) (fun h600 => ?_)
   ·
    refine zak (zac (zaa rfl (zad) (zaf (zai (zax (za6 (zaT (zc6 (za6 (zaT ?_))))))))))
    refine zar [_] ⟨rfl, trivial⟩ ?_
    exact ⟨false, rfl, by simp, rfl⟩
   ·
    refine zau (za2 (zai (zac (zaa rfl (zab) ?_))))
    refine zaa rfl (zaV rfl rfl (Coup.w64 (by omega))) ?_
    refine zaa rfl (zad) (zaf ?_)
    refine zbq ⟨i + 1, by omega, ⟨by go_num, rfl, rfl, rfl⟩, by omega, fun j y hj hy => ?_, rfl⟩
    by_cases hjk : j < i
    ·exact hall j y hjk hy
    ·obtain rfl : j = i := by omega
     rw [hx] at hy; cases hy; omega
  ·
   have hno : most < i := by omega
   refine zbp (zbW (zb9 (zbw (zai (zak (zac (zaa rfl (zab) ?_)))))))
   refine zaa rfl (zaA (e := 33) (sz := 4) (by kernel_rfl) rfl rfl) ?_
   refine zaa rfl (zab) ?_
   refine zaa rfl (zhf rfl rfl) ?_
   refine zaa rfl (zad) (zaf (zai (zax ?_)))
   refine zar [_] ⟨rfl, trivial⟩ ?_
   exact ⟨false, by show Value.bool (decide _) = _; rw [decide_eq_false (by omega)], by simp, rfl⟩
 ·
  have hin : i = n := by omega
  subst hin
  refine zaE rfl rfl (zaE rfl rfl (zaE rfl rfl (zaa rfl (zaz rfl) (zaf (zai ?_)))))
  refine zln rfl (rfl) ?_
  refine zbp (zbW (zb9 (zbw (zai (zak (zac (zaa rfl (zab) ?_)))))))
  refine zaa rfl (zaA (e := 33) (sz := 4) (by kernel_rfl) rfl rfl) ?_
  refine zaa rfl (zab) ?_
  refine zaa rfl (zhf rfl rfl) ?_
  refine zaa rfl (zad) (zaf (zai (zax ?_)))
  refine zar [_] ⟨rfl, trivial⟩ ?_
  refine ⟨decide (R.length ≤ most), ?_, fun hd => ⟨of_decide_eq_true hd, fun a ha => ?_⟩, rfl⟩
  · show Value.bool (decide _) = Value.bool (decide _)
    congr 1
    rw [decide_eq_decide]
    rw [hRl]
    omega
  · obtain ⟨j, hj⟩ := List.getElem?_of_mem ha
    exact hall j a (by have := (List.getElem?_eq_some_iff.1 hj).1; omega) hj
set_option maxRecDepth 20000 in
theorem fits06 (a b : Int) (w : World) : Calls Tryz.prog 7 [.int .i64 a, .int .i64 b].toArray w (Ret fun v w' => v = .bool (decide ((4 ≤ a ∧ a ≤ 80) ∧ 4 ≤ b ∧ b ≤ 400)) ∧ w = w') := by
 refine zaw (fn := Tryz.f7) (rs := [.tmp 4]) (n := 19) Tryz.func7 rfl rfl Tryz.ntmps7 (by kernel_rfl) rfl ?_
 refine zak (zac (zaa rfl (zad) (zaf (zai (zak (zac (zaa rfl (zab) ?_)))))))
 refine zaa rfl (zeR rfl rfl) ?_
 refine zaa rfl (zab) ?_
 refine zbJ 7 rfl (fun h1 => ?_) (fun h1 => ?_)
 ·
  refine zas rfl (zaa rfl (zab) (zas rfl ?_))
  refine zaa rfl (zhf rfl rfl) ?_
  refine zaa rfl (zay rfl) (zaa rfl (zab) ?_)
  refine zbJ 11 rfl (fun h2 => ?_) (fun h2 => ?_)
  ·
   refine zas rfl (zaa rfl (zab) (zas rfl ?_))
   refine zaa rfl (zeR rfl rfl) ?_
   refine zaa rfl (zay rfl) (zaa rfl (zab) ?_)
   refine zbJ 15 rfl (fun h3 => ?_) (fun h3 => ?_)
   ·
    refine zas rfl (zaa rfl (zab) (zas rfl ?_))
    refine zaa rfl (zhf rfl rfl) ?_
    refine zaa rfl (zay rfl) (zaa rfl (zad) (zaf (zai (zax ?_))))
    refine zar [_] ⟨rfl, trivial⟩ ?_
    refine ⟨?_, rfl⟩
    show Value.bool (decide (b ≤ 400)) = _
    congr 1
    rw [decide_eq_decide]
    omega
   ·
    refine zaE rfl rfl (zaE rfl rfl (zaa rfl (zaz rfl) (zaa rfl (zad) (zaf (zai (zax ?_))))))
    refine zar [_] ⟨rfl, trivial⟩ ?_
    exact ⟨by rw [decide_eq_false (show ¬ ((4 ≤ a ∧ a ≤ 80) ∧ 4 ≤ b ∧ b ≤ 400) by omega)]; rfl, rfl⟩
  ·
   refine zaE rfl rfl (zaE rfl rfl (zaa rfl (zaz rfl) (zaa rfl (zab) (zaE rfl rfl (zaE rfl rfl (zaa rfl (zaz rfl) (zaa rfl (zad) (zaf (zai (zax ?_))))))))))
   refine zar [_] ⟨rfl, trivial⟩ ?_
   exact ⟨by rw [decide_eq_false (show ¬ ((4 ≤ a ∧ a ≤ 80) ∧ 4 ≤ b ∧ b ≤ 400) by omega)]; rfl, rfl⟩
 ·
  refine zaE rfl rfl (zaE rfl rfl (zaa rfl (zaz rfl) (zaa rfl (zab) (zaE rfl rfl (zaE rfl rfl (zaa rfl (zaz rfl) (zaa rfl (zab) (zaE rfl rfl (zaE rfl rfl (zaa rfl (zaz rfl) (zaa rfl (zad) ?_)))))))))))
  refine zaf (zai (zax ?_))
  refine zar [_] ⟨rfl, trivial⟩ ?_
  exact ⟨by rw [decide_eq_false (show ¬ ((4 ≤ a ∧ a ≤ 80) ∧ 4 ≤ b ∧ b ≤ 400) by omega)]; rfl, rfl⟩
end Go.Proofs.YtielfpkjoidomaaGreat
namespace Go.Proofs.YtielfpkjoidomaaGreat
open Go Go.RowKit Coup
section
variable {X : World → List Nat → Prop} [Thing X] {q lo : Nat} {L : List Nat} {P : Pl} {V : Nat → Pg} {k : Nat} {w : World}
end
theorem needW3 {n : Nat} (h : n ≤ 3) : zbK (n : Int) ≤ zbK 3 := by
 unfold zbK
 rw [if_pos (show (1 : Int) ≤ 3 ∧ (3 : Int) ≤ 60 by omega)]
 by_cases h0 : n = 0
 ·rw [if_neg (by omega)]; omega
 ·rw [if_pos (by omega), Int.toNat_natCast]
  have : zaY (n * 516) ≤ zaY (Int.toNat 3 * 516) := by
   have e : Int.toNat 3 = 3 := rfl
   rw [e]
   unfold zaY za1
   omega
  omega
theorem zhW (P : Pl) : (zaC P).2.G.size = P.G.size ∧ (zaC P).2.D.V.length = P.D.V.length := by
 have hs := zcc P
 have hr : (zbi P).2.G.size = P.G.size ∧ (zbi P).2.D.V.length = P.D.V.length := by
  unfold zbi
  split
  ·exact ⟨hs.2.1, hs.1⟩
  ·exact ⟨rfl, rfl⟩
 have hc := zdk (zbi P).2.D (zbi P).2.G (zaU P)
 have hp : (zb7 (zbi P).2 (zaU P)).G.size = P.G.size ∧ (zb7 (zbi P).2 (zaU P)).D.V.length = P.D.V.length := ⟨hc.2.trans hr.1, hc.1.trans hr.2⟩
 have hd := zcn (zaU P) (zb7 (zbi P).2 (zaU P))
 unfold zaC
 split
 ·exact ⟨rfl, rfl⟩
 ·split
  ·exact ⟨rfl, rfl⟩
  ·split
   ·exact ⟨rfl, rfl⟩
   ·split
    ·split
     ·exact ⟨by show (za5 _ _).G.size = _; rw [hd.2.1]; exact hp.1, by show (za5 _ _).D.V.length = _; rw [hd.1]; exact hp.2⟩
     ·exact hp
    ·exact hr
structure LI (P Q : Pl) (V : Nat → Pg) (k pages s t : Nat) : Prop where
 p : PlI P V k
 q : PlI Q V k
 pl : ∃ T, PlL P T
 ql : ∃ T, PlL Q T
 ch : Q.ch = P.ch
 np : P.n = pages
 nq : Q.n = pages
 sp : P.G.size = s
 sq : Q.G.size = t
namespace LI
variable {P Q : Pl} {V : Nat → Pg} {k pages s t : Nat}
theorem rd (h : LI P Q V k pages s t) (n : Int) : rdE Q n = rdE P n := by
 unfold rdE
 have e : inP Q n ↔ inP P n := by unfold inP; rw [h.np, h.nq]
 by_cases hm : inP P n
 ·rw [if_pos hm, if_pos (e.2 hm)]
 ·rw [if_neg hm, if_neg fun hc => hm (e.1 hc)]
theorem up (h : LI P Q V k pages s t) {k2 : Nat} (hk : k ≤ k2) : LI P Q V k2 pages s t := ⟨h.p.up hk, h.q.up hk, h.pl, h.ql, h.ch, h.np, h.nq, h.sp, h.sq⟩
theorem rec_ (h : LI P Q V k pages s t) : zaU Q = zaU P := by unfold zaU; rw [h.ch, h.np, h.nq]
theorem put (h : LI P Q V k pages s t) (n : Int) {X : Pg} (hX : X.length = 512) : LI (pP P n X) (pP Q n X) V k pages s t := by
 have e : inP Q n ↔ inP P n := by unfold inP; rw [h.np, h.nq]
 have hp := h.p.pP n hX
 have hq := h.q.pP n hX
 revert hp hq
 unfold pP
 by_cases hm : inP P n
 ·rw [if_pos hm, if_pos (e.2 hm)]
  intro hp hq
  have hm2 := hm
  unfold inP at hm2
  obtain ⟨a1, a2, a3, a4, a5, a6, a7⟩ := zc0 P n.toNat
  obtain ⟨b1, b2, b3, b4, b5, b6, b7⟩ := zc0 Q n.toNat
  obtain ⟨T, hT⟩ := h.pl
  obtain ⟨T2, hT2⟩ := h.ql
  have hnp := h.np
  have hnq := h.nq
  refine ⟨hp, hq, ⟨T, hT.same a1 a2 a5⟩, ⟨T2, hT2.same b1 b2 b5⟩, ?_, a7.trans h.np, b7.trans h.nq, by show (zeJ P n.toNat).G.size = s; rw [a2]; exact h.sp, by show (zeJ Q n.toNat).G.size = t; rw [b2]; exact h.sq⟩
  show zdB Q.ch n.toNat _ = zdB P.ch n.toNat _
  rw [h.ch, h.p.ask (by omega), h.q.ask (by omega)]
 ·rw [if_neg hm, if_neg fun hc => hm (e.1 hc)]
  intro _ _
  exact h
theorem abort (h : LI P Q V k pages s t) : LI { P with ch := noP } { Q with ch := noP } V k pages s t := by
 obtain ⟨T, hT⟩ := h.pl
 obtain ⟨T2, hT2⟩ := h.ql
 exact ⟨h.p.zfK noP (fun i b h => nomatch h), h.q.zfK noP (fun i b h => nomatch h), ⟨T, hT.same rfl rfl rfl⟩, ⟨T2, hT2.same rfl rfl rfl⟩, rfl, h.np, h.nq, h.sp, h.sq⟩
theorem commit (h : LI P Q V k pages s t) (hk : k ≤ 900000) (hn : pages ≤ 2048) (hl : (zaU P).length ≤ 3) (hs : zbK 3 ≤ (s : Int)) (ht : zbK 3 ≤ (t : Int)) :
  (zaC P).1 = 0 ∧ (zaC Q).1 = 0 ∧ LI (zaC P).2 (zaC Q).2 (zcl P V) (k + 1) pages s t ∧ (zaU (zaC P).2).length = 0 := by
 have hnp := h.np
 have hnq := h.nq
 have hw := needW3 hl
 obtain ⟨p1, p2, p3, p4, p5⟩ := h.p.commit hk (by omega)
 obtain ⟨q1, q2, q3, q4, q5⟩ := h.q.commit hk (by omega)
 have hrec := h.rec_
 have e1 := p4 (by omega) (by rw [h.sp]; omega)
 have e2 := q4 (by rw [hrec]; omega) (by rw [hrec, h.sq]; omega)
 have v1 : zcv P V = zcl P V := by unfold zcv; rw [if_pos e1]
 have v2 : zcv Q V = zcl P V := by unfold zcv; rw [if_pos e2]; unfold zcl; rw [h.ch, hnp, hnq]
 rw [v1] at p1
 rw [v2] at q1
 obtain ⟨T, hT⟩ := h.pl
 obtain ⟨T2, hT2⟩ := h.ql
 have hch : (zaC Q).2.ch = (zaC P).2.ch ∧ (zaU (zaC P).2).length = 0 := by
  by_cases h0 : (zaU P).length = 0
  ·have a1 : zaC P = (0, P) := by unfold zaC; rw [if_pos h0]
   have a2 : zaC Q = (0, Q) := by unfold zaC; rw [if_pos (by rw [hrec]; exact h0)]
   rw [a1, a2]
   exact ⟨h.ch, h0⟩
  ·have c1 := p5 e1 (by omega)
   have c2 := q5 e2 (by rw [hrec]; omega)
   refine ⟨by rw [c1, c2], ?_⟩
   unfold zaU
   rw [c1]
   have e : ∀ m a, zcA noP a m = [] := fun m => by
    induction m with
    | zero => intro a; rfl
    | succ m ih => intro a; rw [zcA]; exact ih (a + 1)
   rw [e]; rfl
 exact ⟨e1, e2, ⟨p1, q1, hT.commit h.p hk (by omega), hT2.commit h.q hk (by omega), hch.1, p2.trans hnp, q2.trans hnq, (zhW P).1.trans h.sp, (zhW Q).1.trans h.sq⟩, hch.2⟩
theorem zg1 (h : LI P Q V k pages s t) (n : Int) : LI (gP P n) Q V k pages s t := by
 obtain ⟨T, hT⟩ := h.pl
 have hs := zcw.get P n
 exact ⟨h.p.gP n, h.q, ⟨T, hT.same hs.D hs.G hs.di⟩, h.ql, by rw [hs.ch]; exact h.ch, hs.n.trans h.np, h.nq, by rw [hs.G]; exact h.sp, h.sq⟩
end LI
section
variable {A B : TH} {g q lo : Nat} {L : List Nat} {P : Pl} {V : Nat → Pg} {k : Nat} {w : World} {l l2 l' : List TH} {D : Dk}
end
theorem TH.ext' {X Y : TH} (h : X.Z = Y.Z) : X = Y := by
 cases X; cases Y; cases h; rfl
theorem AtZ.one {l : List TH} {lo : Nat} {L : List Nat} {w : World} (h : AtZ l lo L w) : Two (Parts l) None lo L w := by
 obtain ⟨⟨C, h1, h2⟩, h3, h4⟩ := h
 exact ⟨⟨C, [], h1, rfl, fun b hb => ⟨(h2 b hb).1, by simp, (h2 b hb).2⟩, fun b hb => nomatch hb⟩, h3, h4⟩
def woI (l : List Int) (n : Int) : List Int := l.filter fun x => !decide (x = n)
theorem zjl (l : List Int) (n : Int) : (woI l n).length ≤ l.length := List.length_filter_le ..
theorem zpo {l : List Int} {n : Int} {j : Nat} {c : Int} (h : l[j]? = some c) : woI (l.take (j + 1)) n = if c = n then woI (l.take j) n else woI (l.take j) n ++ [c] := by
 rw [List.take_add_one, h, woI, List.filter_append, Option.toList_some]
 by_cases hc : c = n
 ·rw [if_pos hc]; simp [woI, hc]
 ·rw [if_neg hc]; simp [woI, hc]
set_option maxRecDepth 20000 in
set_option maxHeartbeats 1000000 in
theorem zhX (l : List Int) (p : Option Addr) (c : Nat) (n : Int) (w : World) (h : za9 w p l.length 1 (iv l)) (hl : l.length ≤ 1000000) :
   Calls Tryz.prog 81 [.slice p l.length c, .int .i64 n].toArray w (Ret fun v w' => zaJ w' w.heap.size 3 1 v (woI l n).length (iv (woI l n)) ∧ Below w.heap.size w w') := by
 have hB := Below.refl w.heap.size w
 have hml : maxLen = 9223372036854775807 := by decide
 refine zaw (fn := Tryz.f81) (rs := [.tmp 4]) (n := 27) Tryz.func81 rfl rfl Tryz.ntmps81 (by kernel_rfl) rfl ?_
 refine zak (zac (zaa rfl (zad) (zaf (zai (zak (zac (zaa rfl (zad) (zaf (zai (zak (zak ?_)))))))))))
 refine zac (zaa rfl (zad) (zaf (zai (zaD ?_))))
 refine zbF (α := Nat × Value) (0, .slice none 0 0) (fun a => [(6, .int .i64 (a.1 : Nat)), (5, a.2), (0, .slice p l.length c), (1, .int .i64 n)])
   (fun a w' => a.1 ≤ l.length ∧ zaJ w' w.heap.size 3 1 a.2 (woI (l.take a.1) n).length (iv (woI (l.take a.1) n)) ∧ Below w.heap.size w w') (fun a => l.length - a.1)
   ⟨rfl, rfl, rfl, rfl, rfl⟩ ⟨Nat.zero_le _, zby _ _ _ _, hB⟩ ?_
 clear hB
 rintro ⟨i, u⟩ f wr ⟨hi, hu, hB⟩
 dsimp only at hi hu ⊢
 have hwl := zjl (l.take i) n
 have htl : (l.take i).length ≤ i := by rw [List.length_take]; omega
 refine zak (zak (zac (zaa rfl (zab) (zaa rfl (zab) ?_))))
 refine zaa rfl (zaA (e := 3) (sz := 1) (by kernel_rfl) rfl rfl) ?_
 refine zaa rfl (zbd rfl rfl) ?_
 refine zaf (zai ?_)
 refine zaZ rfl (fun hlt => ?_) (fun hlt => ?_)
 ·
  refine zau (zai (zak (zaD (zak ?_))))
  have hob : ∃ x, l[i]? = some x := ⟨_, List.getElem?_eq_getElem (by omega)⟩
  obtain ⟨x, hx⟩ := hob
  have hws := zpo (n := n) hx
  have hobt := h.some (by omega)
  obtain ⟨gp, op, rfl, _⟩ := hobt
  refine zac (zaa rfl (zab) (zaa rfl (zab) ?_))
  refine zaa rfl (zbm (e := 3) (by kernel_rfl) rfl rfl (i) (by omega) (by omega)) ?_
  refine zaa rfl (zam rfl (Ld.sl1 (h.below hB (Nat.le_refl _)) (by kernel_rfl) (zeq hx))) ?_
  refine zaa rfl (zab) ?_
  refine zaa rfl (zaW rfl rfl) ?_
  refine zaf (zai ?_)
  refine zaZ rfl (fun hne => ?_) (fun hne => ?_)
  ·
   have hne2 : ¬ x = n := by simpa using hne
   rw [if_neg hne2] at hws
   refine zac (zaa rfl (zab) (zaa rfl (zab) (zaa rfl (zab) ?_)))
   refine zaa rfl (zbm (e := 3) (by kernel_rfl) rfl rfl (i) (by omega) (by omega)) ?_
   refine zaa rfl (zam rfl (Ld.sl1 (h.below hB (Nat.le_refl _)) (by kernel_rfl) (zeq hx))) ?_
   refine zaX rfl (zci (e := 3) (.int .i64 x) ([.int .i64 x]) ([Value.int .i64 0]) 1 (by kernel_rfl) (by kernel_rfl) rfl rfl rfl ⟨by decide, by decide⟩ (fun g24 w24 hg24 hr24 hb24 => ?_))
   have ge_hB_g24 := Nat.le_trans hB.size hg24
   replace hu := hu.new hb24
   replace hB := hB.acc hb24
   have hs24 := hr24.slA (m := 1) (sz := 1) rfl (by omega)
   have sz_hB_25 := hB.size
   refine zaX rfl (za7 (e := 3) (sz := 1) (bytes := 8) (z := Value.int .i64 0) (by kernel_rfl) rfl (by kernel_rfl) rfl (by decide) rfl hu rfl hs24 (by simp [Value.oneCell']) (by unfold maxLen; omega) (by omega) (fun hm0 => by omega) (fun v25 w25 hv25 hgr25 hfr25 => ?_))
   replace hB := hB.own hu hgr25 (by omega)
   refine zaa rfl (zad) (zaf (za2 (zai (zac (zaa rfl (zab) ?_)))))
   refine zaa rfl (zaV rfl rfl (Coup.w64 (by omega))) ?_
   refine zaa rfl (zad) (zaf ?_)
   refine zbq ⟨(i + 1, v25), by omega, ⟨by go_num, rfl, rfl, rfl, rfl⟩, by omega, ?_, hB⟩
   show zaJ _ _ _ 1 v25 (woI (l.take (i + 1)) n).length (iv (woI (l.take (i + 1)) n))
   rw [hws, zeT, List.length_append]
   exact hv25
  ·
   have hne2 : x = n := by simpa using hne
   rw [if_pos hne2] at hws
   refine zau (za2 (zai (zac (zaa rfl (zab) ?_))))
   refine zaa rfl (zaV rfl rfl (Coup.w64 (by omega))) ?_
   refine zaa rfl (zad) (zaf ?_)
   refine zbq ⟨(i + 1, u), by omega, ⟨by go_num, rfl, rfl, rfl, rfl⟩, by omega, ?_, hB⟩
   show zaJ _ _ _ 1 u (woI (l.take (i + 1)) n).length (iv (woI (l.take (i + 1)) n))
   rw [hws]; exact hu
 ·
  have hil : i = l.length := by omega
  subst hil
  rw [List.take_length] at hu
  refine zbp (zbW (zb9 (zbw (zai (zak (zac (zaa rfl (zab) (zaa rfl (zad) (zaf (zai (zax ?_)))))))))))
  refine zar [_] ⟨rfl, trivial⟩ ?_
  exact ⟨hu, hB⟩
set_option maxRecDepth 20000 in
theorem has82 (l : List Int) (p : Option Addr) (c : Nat) (n : Int) (w : World) (h : za9 w p l.length 1 (iv l)) (hl : l.length ≤ 1000000) :
  Calls Tryz.prog 82 [.slice p l.length c, .int .i64 n].toArray w (Ret fun v w' => (∃ b, v = .bool b) ∧ Below w.heap.size w w') := by
 have hB := Below.refl w.heap.size w
 have hwo := zhX l p c n w h hl
 refine zaw (fn := Tryz.f82) (rs := [.tmp 4]) (n := 12) Tryz.func82 rfl rfl Tryz.ntmps82 (by kernel_rfl) rfl ?_
 refine zak (zac (zaa rfl (zad) (zaf (zai (zak (zac (zaa rfl (zab) (zaa rfl (zab) ?_))))))))
 refine zat rfl (zao (by kernel_rfl) rfl) (hwo) ?_
 rintro _ w7 ⟨ho, hb7⟩
 have hof := ho.form
 obtain ⟨pp, cc, rfl⟩ := hof
 replace hB := hB.acc hb7
 refine zaa rfl (zaA (e := 3) (sz := 1) (by kernel_rfl) rfl rfl) ?_
 refine zaa rfl (zab) ?_
 refine zaa rfl (zaA (e := 3) (sz := 1) (by kernel_rfl) rfl rfl) ?_
 refine zaa rfl (zbd rfl rfl) ?_
 refine zaa rfl (zad) (zaf (zai (zax ?_)))
 refine zar [_] ⟨rfl, trivial⟩ ?_
 exact ⟨⟨_, rfl⟩, hB⟩
theorem subI {w : World} {p : Option Addr} {l : List Int} {c : Nat} (h : za9 w p l.length 1 (iv l)) (i : Nat) (hi : i ≤ l.length) (hc : l.length ≤ c) : za9 w (if c = i then p else p.map (·.add (i * 1))) (l.length - i) 1 (iv (l.drop i)) := by
 by_cases h0 : i = l.length
 ·subst h0
  refine ⟨?_, ?_, fun h1 => absurd h1 (by omega)⟩
  ·rw [zaM, List.length_drop]; omega
  ·omega
 ·obtain ⟨g, o, rfl, _⟩ := h.some (by omega)
  rw [if_neg (by omega)]
  have h2 := h.sub i (l.length - i) (by omega)
  have e : ((iv l).drop (i * 1)).take ((l.length - i) * 1) = iv (l.drop i) := by
   rw [Nat.mul_one, Nat.mul_one, List.take_of_length_le (by rw [List.length_drop, zaM]; omega)]
   unfold iv; rw [List.map_drop]
  rw [e] at h2
  simpa [Addr.add_lit] using h2
theorem zjm {w : World} {b b' i : Nat} {l : List Int} {n : Int} {v : Value} (h : zaJ w b 3 1 v (0 + i + 1 + (l.length - i)) ([] ++ iv (l.take i) ++ [.int .i64 n] ++ iv (l.drop i))) (hi : i ≤ l.length) (hb : b' ≤ b) : ∃ l2 : List Int, l2.length = l.length + 1 ∧ zaJ w b' 3 1 v l2.length (iv l2) := by
 have hl : (l.take i ++ [n] ++ l.drop i).length = l.length + 1 := by simp; omega
 refine ⟨l.take i ++ [n] ++ l.drop i, hl, ?_⟩
 rw [hl, zeT, zeT, show l.length + 1 = 0 + i + 1 + (l.length - i) by omega]
 exact h.mono hb
set_option maxRecDepth 20000 in
set_option maxHeartbeats 1000000 in
theorem zpp (l : List Int) (p : Option Addr) (c : Nat) (n : Int) (w : World) (h : za9 w p l.length 1 (iv l)) (hl : l.length ≤ 1000000) (hlc : l.length ≤ c) :
   Calls Tryz.prog 83 [.slice p l.length c, .int .i64 n].toArray w (Ret fun v w' => (∃ l2 : List Int, l2.length = l.length + 1 ∧ zaJ w' w.heap.size 3 1 v l2.length (iv l2)) ∧ Below w.heap.size w w') := by
 have hB := Below.refl w.heap.size w
 have hml : maxLen = 9223372036854775807 := by decide
 refine zaw (fn := Tryz.f83) (rs := [.tmp 4]) (n := 38) Tryz.func83 rfl rfl Tryz.ntmps83 (by kernel_rfl) rfl ?_
 refine zak (zac (zaa rfl (zad) (zaf (zai (zak (zac (zaa rfl (zad) (zaf (zai (zak (zak ?_)))))))))))
 refine zac (zaa rfl (zad) (zaf (zai (zaD ?_))))
 refine zbF (α := Nat × Value) (0, .slice none 0 0) (fun a => [(6, .int .i64 (a.1 : Nat)), (5, a.2), (0, .slice p l.length c), (1, .int .i64 n)])
   (fun a w' => a.1 ≤ l.length ∧ zaJ w' w.heap.size 3 1 a.2 a.1 (iv (l.take a.1)) ∧ Below w.heap.size w w') (fun a => l.length - a.1)
   ⟨rfl, rfl, rfl, rfl, rfl⟩ ⟨Nat.zero_le _, zby _ _ _ _, hB⟩ ?_
 clear hB
 rintro ⟨i, u⟩ f wr ⟨hi, hu, hB⟩
 dsimp only at hi hu ⊢
 have hfo := hu.form
 obtain ⟨pu, cu, rfl⟩ := hfo
 have hsrc := hu.sl
 refine zak (zak (zac (zaa rfl (zab) (zaa rfl (zab) ?_))))
 refine zaa rfl (zaA (e := 3) (sz := 1) (by kernel_rfl) rfl rfl) ?_
 refine zaa rfl (zbd rfl rfl) ?_
 refine zaa rfl (zab) ?_
 refine zbJ 11 rfl (fun hlt => ?_) (fun hlt => ?_)
 ·
  refine zas rfl (zaa rfl (zab) (zas rfl (zaa rfl (zab) (zas rfl ?_))))
  have hob : ∃ x, l[i]? = some x := ⟨_, List.getElem?_eq_getElem (by omega)⟩
  obtain ⟨x, hx⟩ := hob
  have hobt := h.some (by omega)
  obtain ⟨gp, op, rfl, _⟩ := hobt
  refine zaa rfl (zbm (e := 3) (by kernel_rfl) rfl rfl (i) (by omega) (by omega)) ?_
  refine zas rfl ?_
  refine zaa rfl (zam rfl (Ld.sl1 (h.below hB (Nat.le_refl _)) (by kernel_rfl) (zeq hx))) ?_
  refine zas rfl (zaa rfl (zab) (zas rfl ?_))
  refine zaa rfl (zbd rfl rfl) ?_
  refine zaa rfl (zay rfl) (zaf (zai ?_))
  refine zaZ rfl (fun hlt2 => ?_) (fun hlt2 => ?_)
  ·
   refine zau (zai (zak (zaD (zac (zaa rfl (zab) (zaa rfl (zab) (zaa rfl (zab) ?_)))))))
   refine zaa rfl (zbm (e := 3) (by kernel_rfl) rfl rfl (i) (by omega) (by omega)) ?_
   refine zaa rfl (zam rfl (Ld.sl1 (h.below hB (Nat.le_refl _)) (by kernel_rfl) (zeq hx))) ?_
   refine zaX rfl (zci (e := 3) (.int .i64 x) ([.int .i64 x]) ([Value.int .i64 0]) 1 (by kernel_rfl) (by kernel_rfl) rfl rfl rfl ⟨by decide, by decide⟩ (fun g26 w26 hg26 hr26 hb26 => ?_))
   have ge_hB_g26 := Nat.le_trans hB.size hg26
   replace hu := hu.new hb26
   replace hsrc := hsrc.new hb26
   replace hB := hB.acc hb26
   have hs26 := hr26.slA (m := 1) (sz := 1) rfl (by omega)
   have sz_hB_27 := hB.size
   refine zaX rfl (za7 (e := 3) (sz := 1) (bytes := 8) (z := Value.int .i64 0) (by kernel_rfl) rfl (by kernel_rfl) rfl (by decide) rfl hu rfl hs26 (by simp [Value.oneCell']) (by unfold maxLen; omega) (by omega) (fun hm0 => by omega) (fun v27 w27 hv27 hgr27 hfr27 => ?_))
   replace hB := hB.own hu hgr27 (by omega)
   refine zaa rfl (zad) (zaf (za2 (zai (zac (zaa rfl (zab) ?_)))))
   refine zaa rfl (zaV rfl rfl (Coup.w64 (by omega))) ?_
   refine zaa rfl (zad) (zaf ?_)
   refine zbq ⟨(i + 1, v27), by omega, ⟨by go_num, rfl, rfl, rfl, rfl⟩, by omega, ?_, hB⟩
   show zaJ _ _ _ 1 v27 (i + 1) (iv (l.take (i + 1)))
   rw [List.take_add_one, hx, zeT]
   exact hv27
  ·
   refine zbp (zbW (zb9 (zbw (zai (zak ?_)))))
   refine zbg [] (by kernel_rfl) ?_
   intro w901 hb901 hS901
   replace hu := hu.new hb901
   replace hsrc := hsrc.new hb901
   replace hB := hB.acc hb901
   have hu_d901 := hu
   have hsrc_d901 := hsrc
   have hB_d901 := hB
   refine zah 0 (by kernel_rfl) rfl (fun _ _ => zab) ?_
   refine zah 2 (by kernel_rfl) rfl (fun _ _ => zab) ?_
   refine zah 5 (by kernel_rfl) rfl (fun _ _ => zab) ?_
   refine zah 6 (by kernel_rfl) rfl (fun _ _ => zab) ?_
   refine zah 7 (by kernel_rfl) rfl (fun _ _ => zaA (e := 3) (sz := 1) (by kernel_rfl) rfl rfl) ?_
   refine zah 8 (by kernel_rfl) rfl (fun _ _ => zc8 (e := 3) (sz := 1) (i) (_) (_) (by kernel_rfl) rfl ⟨_, _, rfl, by omega⟩ rfl rfl (by simp) (by omega) (by omega) (by omega)) ?_
   refine zfT 1 3 (by kernel_rfl) ?_ ?_
   ·
    have hz0 := hB.size
    refine zbN rfl rfl (za7 (e := 3) (sz := 1) (bytes := 8) (z := Value.int .i64 0) (by kernel_rfl) rfl (by kernel_rfl) rfl (by decide) rfl (zby w901 w901.heap.size 3 1) rfl hsrc (zgF _) (by unfold maxLen; omega) (by omega) (fun _ => Nat.le_refl _) (fun v29 w29 hv29 hgr29 hfr29 => ?_))
    have hb29 := zdg hgr29
    have hS902 := hS901.add0 hb29
    refine ⟨hS902, ?_⟩
    replace hu := hu.new hb29
    replace hsrc := hsrc.new hb29
    replace hB := hB.acc hb29
    refine zaS 3 (by kernel_rfl) ?_
    refine zbN rfl rfl (zci (e := 3) (.int .i64 n) ([.int .i64 n]) ([Value.int .i64 0]) 1 (by kernel_rfl) (by kernel_rfl) rfl rfl rfl ⟨by decide, by decide⟩ (fun g31 w31 hg31 hr31 hb31 => ?_))
    have hS903 := hS902.add0 hb31
    refine ⟨hS903, ?_⟩
    have ge_hS902_g31 := Nat.le_trans hS902.size hg31
    have ge_hB_g31 := Nat.le_trans hB.size hg31
    replace hv29 := hv29.new hb31
    replace hB := hB.acc hb31
    have hz31 := hb31.size
    refine zaS 4 (by kernel_rfl) ?_
    have hs31 := hr31.slA (m := 1) (sz := 1) rfl (by omega)
    have hz29 := hgr29.size
    have hl31 := hr31.lt
    have sz_hB_32 := hB.size
    refine zbN rfl rfl (za7 (e := 3) (sz := 1) (bytes := 8) (z := Value.int .i64 0) (by kernel_rfl) rfl (by kernel_rfl) rfl (by decide) rfl hv29 rfl hs31 (by simp [Value.oneCell']) (by unfold maxLen; omega) (by omega) (fun hm0 => by omega) (fun v32 w32 hv32 hgr32 hfr32 => ?_))
    have hS904 := hS903.add (Kp.zba hgr32) (fun g hm => by first | exact Or.inr hm | exact Or.inr (List.mem_cons_of_mem _ hm) | (have := (hv29.lt g (Option.mem_toList.1 hm)).1; left; omega) | exact (hfr29 g (Option.mem_toList.1 hm)).elim (fun e => Or.inr (Option.mem_toList.2 e)) (fun e => Or.inl (by omega)) | exact (hfr29 g (Option.mem_toList.1 hm)).elim (fun e => Or.inr (List.mem_cons_of_mem _ (Option.mem_toList.2 e))) (fun e => Or.inl (by omega)))
    refine ⟨hS904, ?_⟩
    replace hB := hB.own hv29 hgr32 (by omega)
    refine zaS 9 (by kernel_rfl) ?_
    have hsub := subI (h.below hB (Nat.le_refl _)) i (by omega) hlc
    have sz_hB_37 := hB.size
    refine zbN rfl rfl (za7 (e := 3) (sz := 1) (bytes := 8) (z := Value.int .i64 0) (by kernel_rfl) rfl (by kernel_rfl) rfl (by decide) rfl hv32 rfl hsub (zgF _) (by unfold maxLen; omega) (by omega) (fun hm0 => by omega) (fun v37 w37 hv37 hgr37 hfr37 => ?_))
    have hS905 := hS904.add (Kp.zba hgr37) (fun g hm => by first | exact Or.inr hm | exact Or.inr (List.mem_cons_of_mem _ hm) | (have := (hv32.lt g (Option.mem_toList.1 hm)).1; left; omega) | exact (hfr32 g (Option.mem_toList.1 hm)).elim (fun e => Or.inr (Option.mem_toList.2 e)) (fun e => Or.inl (by omega)) | exact (hfr32 g (Option.mem_toList.1 hm)).elim (fun e => Or.inr (List.mem_cons_of_mem _ (Option.mem_toList.2 e))) (fun e => Or.inl (by omega)))
    refine ⟨hS905, ?_⟩
    replace hB := hB.own hv32 hgr37 (by omega)
    refine zah 10 (by kernel_rfl) rfl (fun _ _ => zad) ?_
    refine zaR (by kernel_rfl) ?_
    refine zai (zax ?_)
    refine zar [_] ⟨rfl, trivial⟩ ?_
    exact ⟨zjm hv37 hi (by omega), hB⟩
   ·
    refine zbN rfl rfl (zci (e := 3) (.int .i64 n) ([.int .i64 n]) ([Value.int .i64 0]) 1 (by kernel_rfl) (by kernel_rfl) rfl rfl rfl ⟨by decide, by decide⟩ (fun g31 w31 hg31 hr31 hb31 => ?_))
    have hS906 := hS901.add0 hb31
    refine ⟨hS906, ?_⟩
    have ge_hS901_g31 := Nat.le_trans hS901.size hg31
    have ge_hB_g31 := Nat.le_trans hB.size hg31
    replace hu := hu.new hb31
    replace hsrc := hsrc.new hb31
    replace hB := hB.acc hb31
    have hz31 := hb31.size
    refine zaS 1 (by kernel_rfl) ?_
    have hz0 := hB.size
    refine zbN rfl rfl (za7 (e := 3) (sz := 1) (bytes := 8) (z := Value.int .i64 0) (by kernel_rfl) rfl (by kernel_rfl) rfl (by decide) rfl (zby w31 w31.heap.size 3 1) rfl hsrc (zgF _) (by unfold maxLen; omega) (by omega) (fun _ => Nat.le_refl _) (fun v29 w29 hv29 hgr29 hfr29 => ?_))
    have hb29 := zdg hgr29
    have hS907 := hS906.add0 hb29
    refine ⟨hS907, ?_⟩
    replace hu := hu.new hb29
    replace hsrc := hsrc.new hb29
    replace hr31 := hr31.new hb29
    replace hB := hB.acc hb29
    refine zaS 4 (by kernel_rfl) ?_
    have hs31 := hr31.slA (m := 1) (sz := 1) rfl (by omega)
    have hz29 := hgr29.size
    have hl31 := hr31.lt
    have sz_hB_32 := hB.size
    refine zbN rfl rfl (za7 (e := 3) (sz := 1) (bytes := 8) (z := Value.int .i64 0) (by kernel_rfl) rfl (by kernel_rfl) rfl (by decide) rfl hv29 rfl hs31 (by simp [Value.oneCell']) (by unfold maxLen; omega) (by omega) (fun hm0 => by omega) (fun v32 w32 hv32 hgr32 hfr32 => ?_))
    have hS908 := hS907.add (Kp.zba hgr32) (fun g hm => by first | exact Or.inr hm | exact Or.inr (List.mem_cons_of_mem _ hm) | (have := (hv29.lt g (Option.mem_toList.1 hm)).1; left; omega) | exact (hfr29 g (Option.mem_toList.1 hm)).elim (fun e => Or.inr (Option.mem_toList.2 e)) (fun e => Or.inl (by omega)) | exact (hfr29 g (Option.mem_toList.1 hm)).elim (fun e => Or.inr (List.mem_cons_of_mem _ (Option.mem_toList.2 e))) (fun e => Or.inl (by omega)))
    refine ⟨hS908, ?_⟩
    replace hB := hB.own hv29 hgr32 (by omega)
    refine zaS 9 (by kernel_rfl) ?_
    have hsub := subI (h.below hB (Nat.le_refl _)) i (by omega) hlc
    have sz_hB_37 := hB.size
    refine zbN rfl rfl (za7 (e := 3) (sz := 1) (bytes := 8) (z := Value.int .i64 0) (by kernel_rfl) rfl (by kernel_rfl) rfl (by decide) rfl hv32 rfl hsub (zgF _) (by unfold maxLen; omega) (by omega) (fun hm0 => by omega) (fun v37 w37 hv37 hgr37 hfr37 => ?_))
    have hS909 := hS908.add (Kp.zba hgr37) (fun g hm => by first | exact Or.inr hm | exact Or.inr (List.mem_cons_of_mem _ hm) | (have := (hv32.lt g (Option.mem_toList.1 hm)).1; left; omega) | exact (hfr32 g (Option.mem_toList.1 hm)).elim (fun e => Or.inr (Option.mem_toList.2 e)) (fun e => Or.inl (by omega)) | exact (hfr32 g (Option.mem_toList.1 hm)).elim (fun e => Or.inr (List.mem_cons_of_mem _ (Option.mem_toList.2 e))) (fun e => Or.inl (by omega)))
    refine ⟨hS909, ?_⟩
    replace hB := hB.own hv32 hgr37 (by omega)
    refine zah 10 (by kernel_rfl) rfl (fun _ _ => zad) ?_
    refine zaR (by kernel_rfl) ?_
    refine zai (zax ?_)
    refine zar [_] ⟨rfl, trivial⟩ ?_
    exact ⟨zjm hv37 hi (by omega), hB⟩
 ·
  refine zaE rfl rfl (zaE rfl rfl (zaE rfl rfl (zaE rfl rfl (zaE rfl rfl (zaE rfl rfl (zaa rfl (zaz rfl) (zaf (zai ?_))))))))
  refine W_f rfl ?_
  refine zbp (zbW (zb9 (zbw (zai (zak ?_)))))
  refine zbg [] (by kernel_rfl) ?_
  intro w910 hb910 hS910
  replace hu := hu.new hb910
  replace hsrc := hsrc.new hb910
  replace hB := hB.acc hb910
  have hu_d910 := hu
  have hsrc_d910 := hsrc
  have hB_d910 := hB
  refine zah 0 (by kernel_rfl) rfl (fun _ _ => zab) ?_
  refine zah 2 (by kernel_rfl) rfl (fun _ _ => zab) ?_
  refine zah 5 (by kernel_rfl) rfl (fun _ _ => zab) ?_
  refine zah 6 (by kernel_rfl) rfl (fun _ _ => zab) ?_
  refine zah 7 (by kernel_rfl) rfl (fun _ _ => zaA (e := 3) (sz := 1) (by kernel_rfl) rfl rfl) ?_
  refine zah 8 (by kernel_rfl) rfl (fun _ _ => zc8 (e := 3) (sz := 1) (i) (_) (_) (by kernel_rfl) rfl ⟨_, _, rfl, by omega⟩ rfl rfl (by simp) (by omega) (by omega) (by omega)) ?_
  refine zfT 1 3 (by kernel_rfl) ?_ ?_
  ·
   have hz0 := hB.size
   refine zbN rfl rfl (za7 (e := 3) (sz := 1) (bytes := 8) (z := Value.int .i64 0) (by kernel_rfl) rfl (by kernel_rfl) rfl (by decide) rfl (zby w910 w910.heap.size 3 1) rfl hsrc (zgF _) (by unfold maxLen; omega) (by omega) (fun _ => Nat.le_refl _) (fun v29 w29 hv29 hgr29 hfr29 => ?_))
   have hb29 := zdg hgr29
   have hS911 := hS910.add0 hb29
   refine ⟨hS911, ?_⟩
   replace hu := hu.new hb29
   replace hsrc := hsrc.new hb29
   replace hB := hB.acc hb29
   refine zaS 3 (by kernel_rfl) ?_
   refine zbN rfl rfl (zci (e := 3) (.int .i64 n) ([.int .i64 n]) ([Value.int .i64 0]) 1 (by kernel_rfl) (by kernel_rfl) rfl rfl rfl ⟨by decide, by decide⟩ (fun g31 w31 hg31 hr31 hb31 => ?_))
   have hS912 := hS911.add0 hb31
   refine ⟨hS912, ?_⟩
   have ge_hS911_g31 := Nat.le_trans hS911.size hg31
   have ge_hB_g31 := Nat.le_trans hB.size hg31
   replace hv29 := hv29.new hb31
   replace hB := hB.acc hb31
   have hz31 := hb31.size
   refine zaS 4 (by kernel_rfl) ?_
   have hs31 := hr31.slA (m := 1) (sz := 1) rfl (by omega)
   have hz29 := hgr29.size
   have hl31 := hr31.lt
   have sz_hB_32 := hB.size
   refine zbN rfl rfl (za7 (e := 3) (sz := 1) (bytes := 8) (z := Value.int .i64 0) (by kernel_rfl) rfl (by kernel_rfl) rfl (by decide) rfl hv29 rfl hs31 (by simp [Value.oneCell']) (by unfold maxLen; omega) (by omega) (fun hm0 => by omega) (fun v32 w32 hv32 hgr32 hfr32 => ?_))
   have hS913 := hS912.add (Kp.zba hgr32) (fun g hm => by first | exact Or.inr hm | exact Or.inr (List.mem_cons_of_mem _ hm) | (have := (hv29.lt g (Option.mem_toList.1 hm)).1; left; omega) | exact (hfr29 g (Option.mem_toList.1 hm)).elim (fun e => Or.inr (Option.mem_toList.2 e)) (fun e => Or.inl (by omega)) | exact (hfr29 g (Option.mem_toList.1 hm)).elim (fun e => Or.inr (List.mem_cons_of_mem _ (Option.mem_toList.2 e))) (fun e => Or.inl (by omega)))
   refine ⟨hS913, ?_⟩
   replace hB := hB.own hv29 hgr32 (by omega)
   refine zaS 9 (by kernel_rfl) ?_
   have hsub := subI (h.below hB (Nat.le_refl _)) i (by omega) hlc
   have sz_hB_37 := hB.size
   refine zbN rfl rfl (za7 (e := 3) (sz := 1) (bytes := 8) (z := Value.int .i64 0) (by kernel_rfl) rfl (by kernel_rfl) rfl (by decide) rfl hv32 rfl hsub (zgF _) (by unfold maxLen; omega) (by omega) (fun hm0 => by omega) (fun v37 w37 hv37 hgr37 hfr37 => ?_))
   have hS914 := hS913.add (Kp.zba hgr37) (fun g hm => by first | exact Or.inr hm | exact Or.inr (List.mem_cons_of_mem _ hm) | (have := (hv32.lt g (Option.mem_toList.1 hm)).1; left; omega) | exact (hfr32 g (Option.mem_toList.1 hm)).elim (fun e => Or.inr (Option.mem_toList.2 e)) (fun e => Or.inl (by omega)) | exact (hfr32 g (Option.mem_toList.1 hm)).elim (fun e => Or.inr (List.mem_cons_of_mem _ (Option.mem_toList.2 e))) (fun e => Or.inl (by omega)))
   refine ⟨hS914, ?_⟩
   replace hB := hB.own hv32 hgr37 (by omega)
   refine zah 10 (by kernel_rfl) rfl (fun _ _ => zad) ?_
   refine zaR (by kernel_rfl) ?_
   refine zai (zax ?_)
   refine zar [_] ⟨rfl, trivial⟩ ?_
   exact ⟨zjm hv37 hi (by omega), hB⟩
  ·
   refine zbN rfl rfl (zci (e := 3) (.int .i64 n) ([.int .i64 n]) ([Value.int .i64 0]) 1 (by kernel_rfl) (by kernel_rfl) rfl rfl rfl ⟨by decide, by decide⟩ (fun g31 w31 hg31 hr31 hb31 => ?_))
   have hS915 := hS910.add0 hb31
   refine ⟨hS915, ?_⟩
   have ge_hS910_g31 := Nat.le_trans hS910.size hg31
   have ge_hB_g31 := Nat.le_trans hB.size hg31
   replace hu := hu.new hb31
   replace hsrc := hsrc.new hb31
   replace hB := hB.acc hb31
   have hz31 := hb31.size
   refine zaS 1 (by kernel_rfl) ?_
   have hz0 := hB.size
   refine zbN rfl rfl (za7 (e := 3) (sz := 1) (bytes := 8) (z := Value.int .i64 0) (by kernel_rfl) rfl (by kernel_rfl) rfl (by decide) rfl (zby w31 w31.heap.size 3 1) rfl hsrc (zgF _) (by unfold maxLen; omega) (by omega) (fun _ => Nat.le_refl _) (fun v29 w29 hv29 hgr29 hfr29 => ?_))
   have hb29 := zdg hgr29
   have hS916 := hS915.add0 hb29
   refine ⟨hS916, ?_⟩
   replace hu := hu.new hb29
   replace hsrc := hsrc.new hb29
   replace hr31 := hr31.new hb29
   replace hB := hB.acc hb29
   refine zaS 4 (by kernel_rfl) ?_
   have hs31 := hr31.slA (m := 1) (sz := 1) rfl (by omega)
   have hz29 := hgr29.size
   have hl31 := hr31.lt
   have sz_hB_32 := hB.size
   refine zbN rfl rfl (za7 (e := 3) (sz := 1) (bytes := 8) (z := Value.int .i64 0) (by kernel_rfl) rfl (by kernel_rfl) rfl (by decide) rfl hv29 rfl hs31 (by simp [Value.oneCell']) (by unfold maxLen; omega) (by omega) (fun hm0 => by omega) (fun v32 w32 hv32 hgr32 hfr32 => ?_))
   have hS917 := hS916.add (Kp.zba hgr32) (fun g hm => by first | exact Or.inr hm | exact Or.inr (List.mem_cons_of_mem _ hm) | (have := (hv29.lt g (Option.mem_toList.1 hm)).1; left; omega) | exact (hfr29 g (Option.mem_toList.1 hm)).elim (fun e => Or.inr (Option.mem_toList.2 e)) (fun e => Or.inl (by omega)) | exact (hfr29 g (Option.mem_toList.1 hm)).elim (fun e => Or.inr (List.mem_cons_of_mem _ (Option.mem_toList.2 e))) (fun e => Or.inl (by omega)))
   refine ⟨hS917, ?_⟩
   replace hB := hB.own hv29 hgr32 (by omega)
   refine zaS 9 (by kernel_rfl) ?_
   have hsub := subI (h.below hB (Nat.le_refl _)) i (by omega) hlc
   have sz_hB_37 := hB.size
   refine zbN rfl rfl (za7 (e := 3) (sz := 1) (bytes := 8) (z := Value.int .i64 0) (by kernel_rfl) rfl (by kernel_rfl) rfl (by decide) rfl hv32 rfl hsub (zgF _) (by unfold maxLen; omega) (by omega) (fun hm0 => by omega) (fun v37 w37 hv37 hgr37 hfr37 => ?_))
   have hS918 := hS917.add (Kp.zba hgr37) (fun g hm => by first | exact Or.inr hm | exact Or.inr (List.mem_cons_of_mem _ hm) | (have := (hv32.lt g (Option.mem_toList.1 hm)).1; left; omega) | exact (hfr32 g (Option.mem_toList.1 hm)).elim (fun e => Or.inr (Option.mem_toList.2 e)) (fun e => Or.inl (by omega)) | exact (hfr32 g (Option.mem_toList.1 hm)).elim (fun e => Or.inr (List.mem_cons_of_mem _ (Option.mem_toList.2 e))) (fun e => Or.inl (by omega)))
   refine ⟨hS918, ?_⟩
   replace hB := hB.own hv32 hgr37 (by omega)
   refine zah 10 (by kernel_rfl) rfl (fun _ _ => zad) ?_
   refine zaR (by kernel_rfl) ?_
   refine zai (zax ?_)
   refine zar [_] ⟨rfl, trivial⟩ ?_
   exact ⟨zjm hv37 hi (by omega), hB⟩
end Go.Proofs.YtielfpkjoidomaaGreat
namespace Coup
open Go Go.RowKit
section
variable {P : Program} {ρ : Env} {w : World} {d : Option Nat} {ty : TypeId} {pos : String} {af : Array Edge} {gd : Option (Nat × Bool)} {K : Value → World → Prop}
theorem zpq {dT sT e sz : Nat} {x y : Operand} {dp sp : Option Addr} {dLen dCap sLen sCap : Nat} (hu : P.underlying dT = some (.slice e)) (hsz : zcN P e sz = true) (hd : ev ρ x = .slice dp dLen dCap) (hs : ev ρ y = .slice sp sLen sCap)
  (g off : Nat) {l : List Value} {t : Nat} (hr : row w g l t) (cs : List Value) (hn : cs.length = Nat.min sLen dLen * sz)
  (hpos : dp = some ⟨g, off, none⟩ ∧ ∃ ad, sp = some ad ∧ ∀ j v, cs[j]? = some v → w.cell? (ad.add j) = some v) (hfit : off + cs.length ≤ l.length) (h1 : ∀ v ∈ cs, v.oneCell' = true)
  (h : ∀ w' n, row w' g (splice l off cs) t → Only g w w' → K (goInt n) w') : Mk P ρ w ⟨d, .call ⟨.builtin .copy, #[x, y], #[dT, sT]⟩, ty, pos, af, gd⟩ K := by
 obtain ⟨rfl, ad, rfl, hsrc⟩ := hpos
 obtain ⟨ie, h4, h5⟩ := zcu hsz
 have hl := run_loadCells_list (P := P) w ad cs hsrc
 have hst := run_storeCells_at P g off t cs 0 l.toArray w hr (by simpa using hfit) h1
 have hrun : (Builtin.copy_ #[dT, sT] ty #[.slice (some ⟨g, off, none⟩) dLen dCap, .slice (some ad) sLen sCap]).run P w = .ok (goInt (Nat.min sLen dLen)) (w.setRow g (l.take off ++ cs ++ l.drop (off + cs.length)).toArray) := by
  simp [Builtin.copy_, run_underlying hu, Builtin.lenOf, Builtin.firstCells, Go.sizeOf, typeInfo, h4, h5, ← hn, hl, hst]
 refine ⟨_, _, ?_, h _ (Nat.min sLen dLen) (by simpa [row, splice] using setRow_heap w g _ _ t _ hr) (Only.setRow _)⟩
 simp [execOp, resolve, invoke, builtin, hd, hs, hrun, Result.andThen]
theorem zoj {t i0 i1 i2 i3 : Nat} {x0 x1 x2 x3 : Operand} (v0 v1 v2 v3 : Value) (cs : List Value) (h0 : ev ρ x0 = v0) (h1 : ev ρ x1 = v1) (h2 : ev ρ x2 = v2) (h3 : ev ρ x3 = v3)
  (hb : P.built t [(i0, v0), (i1, v1), (i2, v2), (i3, v3)] = some cs.toArray) :
  (execOp (ev ρ) ⟨d, .build t #[(i0, x0), (i1, x1), (i2, x2), (i3, x3)], ty, pos, af, gd⟩).run P w = .ok (.value (.agg cs.toArray)) w := by
 have := run_build (P := P) w t #[(i0, v0), (i1, v1), (i2, v2), (i3, v3)] cs.toArray (by simpa using hb)
 simp only [execOp, List.map_toArray, List.map_cons, List.map_nil, h0, h1, h2, h3, Sem.run_bind, this, Result.andThen_ok]
 rfl
end
end Coup
namespace Go.Proofs.YtielfpkjoidomaaGreat
open Go Go.RowKit Coup
def zeH (l : List Pg) : List Value := l.flatMap bv
def zmM (l : List Pg) : Prop := ∀ p ∈ l, p.length = 512
theorem zd3 {l : List Pg} (h : zmM l) : (zeH l).length = l.length * 512 := by
 induction l with
 | nil => rfl
 | cons c l ih =>
  rw [zeH, List.flatMap_cons, List.length_append, zae, h c (List.mem_cons_self ..), List.length_cons]
  have := ih fun x hx => h x (List.mem_cons_of_mem _ hx)
  rw [zeH] at this
  omega
theorem pgsV_at {l : List Pg} (h : zmM l) {i : Nat} {c : Pg} (hc : l[i]? = some c) : ((zeH l).drop (i * 512)).take 512 = bv c := by
 induction l generalizing i with
 | nil => simp at hc
 | cons d l ih =>
  have hd : (bv d).length = 512 := by rw [zae]; exact h d (List.mem_cons_self ..)
  cases i with
  | zero =>
   obtain rfl : d = c := by simpa using hc
   rw [Nat.zero_mul, List.drop_zero, zeH, List.flatMap_cons, List.take_left' hd]
  | succ i =>
   have hc' : l[i]? = some c := by simpa using hc
   rw [zeH, List.flatMap_cons, show (i + 1) * 512 = (bv d).length + i * 512 by omega, List.drop_append, List.drop_of_length_le (by omega), List.nil_append, show (bv d).length + i * 512 - (bv d).length = i * 512 by omega]
   exact ih (fun x hx => h x (List.mem_cons_of_mem _ hx)) hc'
theorem zl1 (l : List Pg) : ∀ v ∈ zeH l, v.oneCell' = true := fun v hv => by
 obtain ⟨c, _, h⟩ := List.mem_flatMap.1 hv
 exact zaL c v h
theorem zjn (a b : List Pg) : zeH (a ++ b) = zeH a ++ zeH b := List.flatMap_append ..
theorem zpr {l : List Pg} (h : zmM l) {i : Nat} {c : Pg} (hi : i < l.length) (hc : c.length = 512) : splice (zeH l) (i * 512) (bv c) = zeH (l.set i c) := by
 have h1 : zmM (l.take i) := fun c hc => h c (List.mem_of_mem_take hc)
 have h2 : zmM (l.take (i + 1)) := fun c hc => h c (List.mem_of_mem_take hc)
 have l1 := zd3 h1
 have l2 := zd3 h2
 rw [List.length_take, Nat.min_eq_left (by omega)] at l1 l2
 have e1 : zeH l = zeH (l.take i) ++ zeH (l.drop i) := by rw [← zjn, List.take_append_drop]
 have e3 : zeH l = zeH (l.take (i + 1)) ++ zeH (l.drop (i + 1)) := by rw [← zjn, List.take_append_drop]
 have e2 : l.set i c = l.take i ++ (c :: l.drop (i + 1)) := List.set_eq_take_append_cons_drop.trans (by rw [if_pos hi])
 have d1 : (zeH l).take (i * 512) = zeH (l.take i) := by rw [e1, List.take_left' l1]
 have d2 : (zeH l).drop ((i + 1) * 512) = zeH (l.drop (i + 1)) := by rw [e3, List.drop_left' l2]
 unfold splice
 rw [d1, zae, hc, show i * 512 + 512 = (i + 1) * 512 by omega, d2, e2, zjn]
 simp [zeH]
theorem zgf (n : Nat) : zeH (List.replicate n zcM) = List.replicate (n * 512) (.int .u8 0) := by
 induction n with
 | zero => simp [zeH]
 | succ n ih =>
  rw [List.replicate_succ, zeH, List.flatMap_cons]
  rw [zeH] at ih
  rw [ih, zlU, show (n + 1) * 512 = 512 + n * 512 by omega, ← List.replicate_append_replicate]
  rfl
theorem zl2 {w : World} {g o n : Nat} {l : List Pg} (h : za9 w (some ⟨g, o, none⟩) n 512 (zeH l)) (hl : zmM l) {i : Nat} {c : Pg} (hc : l[i]? = some c) : Ld Tryz.prog w 37 ⟨g, o + i * 512, none⟩ (.agg (bv c).toArray) := by
 have hi := (List.getElem?_eq_some_iff.1 hc).1
 have hll := zd3 hl
 have := Ld.slN (P := Tryz.prog) (t := 37) (j := i * 512) (k := 512) h (by kernel_rfl) (by kernel_rfl) (by omega)
 rw [pgsV_at hl hc] at this
 exact this
structure Rf where
 vs : List Pg
 ch : Rec
 di : List Int
 cl : List Int
 fr : Int
 sz : Int
 rm : Int
structure zps (R : Rf) (B : Nat) : Prop where
 vs : zmM R.vs
 vl : R.vs.length ≤ 1000
 ch : zbD R.ch
 cl : R.ch.length ≤ 1000
 di : R.di.length ≤ B
 bb : B ≤ 900000
 ll : (R.cl.length : Int) ≤ R.fr
 fr : 2 ≤ R.fr
 fm : R.fr ≤ 1000
 rm : 0 ≤ R.rm
 rs : R.rm ≤ R.sz
 sm : R.sz ≤ 100000
def rfV (R : Rf) (p1 : Option Addr) (c1 : Nat) (p2 : Option Addr) (c2 : Nat) (p3 : Option Addr) (c3 : Nat) (p4 : Option Addr) (c4 : Nat) : List Value :=
 [.slice p1 R.vs.length c1, .slice p2 R.ch.length c2, .slice p3 R.di.length c3, .slice p4 R.cl.length c4, .int .i64 R.fr, .int .i64 R.sz, .int .i64 R.rm]
def zch (p : Option Addr) (m : Nat) : List Nat := if m = 0 then [] else match p with
 | some a => [a.block]
 | none => []
theorem zdm {p : Option Addr} {m b : Nat} : b ∈ zch p m ↔ 0 < m ∧ ∃ a, p = some a ∧ a.block = b := by
  unfold zch
  split
  · constructor
    · intro h; cases h
    · intro h; omega
  · cases p with
    | none => simp
    | some a => simp; constructor
                · rintro rfl; exact ⟨by omega, rfl⟩
                · rintro ⟨_, rfl⟩; rfl
structure Pc (g : Nat) (w : World) (p : Option Addr) (m sz c : Nat) (cs : List Value) : Prop where
 s : za9 w p m sz cs
 n : g ∉ zch p m
 k : m ≤ c
theorem Pc.kpd {g m sz c : Nat} {w w' : World} {p : Option Addr} {cs : List Value} {M : List Nat} (h : Pc g w p m sz c cs) (k : Kp M w w') (hM : ∀ b ∈ zch p m, b ∉ M) : Pc g w' p m sz c cs :=
 ⟨znH h.s k fun h0 b o e => hM b (zdm.2 ⟨h0, _, e, rfl⟩), h.n, h.k⟩
theorem Pc.kp {g m sz c : Nat} {w w' : World} {p : Option Addr} {cs : List Value} (h : Pc g w p m sz c cs) (k : KpB [g] w w') : Pc g w' p m sz c cs := h.kpd k.k fun b hb hm => by
 rw [List.mem_singleton.1 hm] at hb; exact h.n hb
theorem Pc.lt {g m sz c : Nat} {w : World} {p : Option Addr} {cs : List Value} (h : Pc g w p m sz c cs) (hz : 0 < sz) : ∀ b ∈ zch p m, b < w.heap.size := fun b hb => by
 obtain ⟨h0, a, e, rfl⟩ := zdm.1 hb
 obtain ⟨g1, o1, e1, l1⟩ := h.s.some (Nat.mul_pos h0 hz)
 rw [e] at e1; cases e1; exact l1
theorem zjo {w : World} {base e sz m c : Nat} {p : Option Addr} {xs : List Value} (h : zaJ w base e sz (.slice p m c) m xs) : m ≤ c := by
 rcases h.2 with ⟨hn, _⟩ | ⟨g', off, cap, cur, he, hb, hg, hmc, _⟩
 ·cases hn; exact Nat.le_refl _
 ·cases he; exact hmc
theorem zft {w : World} {base e sz m c : Nat} {p : Option Addr} {xs : List Value} (h : zaJ w base e sz (.slice p m c) m xs) : ∀ b ∈ zch p m, base ≤ b := fun b hb => by
 obtain ⟨h0, a, e, rfl⟩ := zdm.1 hb
 rcases h.2 with ⟨hn, _⟩ | ⟨g', off, cap, cur, he, hge, _⟩
 ·cases hn; cases e
 ·cases he; cases e; exact hge
theorem Pc.zgQ {g base e sz m c : Nat} {w : World} {p : Option Addr} {xs : List Value} (h : zaJ w base e sz (.slice p m c) m xs) (hg : g < base) : Pc g w p m sz c xs :=
 ⟨h.sl, fun hm => absurd (zft h g hm) (Nat.not_le.2 hg), zjo h⟩
structure RfAt (g : Nat) (R : Rf) (p1 : Option Addr) (c1 : Nat) (p2 : Option Addr) (c2 : Nat) (p3 : Option Addr) (c3 : Nat) (p4 : Option Addr) (c4 : Nat) (w : World) : Prop where
 row : Coup.row w g (rfV R p1 c1 p2 c2 p3 c3 p4 c4) 89
 s1 : Pc g w p1 R.vs.length 512 c1 (zeH R.vs)
 s2 : Pc g w p2 R.ch.length 513 c2 (zbT R.ch)
 s3 : Pc g w p3 R.di.length 1 c3 (iv R.di)
 s4 : Pc g w p4 R.cl.length 1 c4 (iv R.cl)
def RfZ (g : Nat) (R : Rf) : World → List Nat → Prop := fun w B => ∃ p1 c1 p2 c2 p3 c3 p4 c4, RfAt g R p1 c1 p2 c2 p3 c3 p4 c4 w ∧ B = g :: (zch p1 R.vs.length ++ zch p2 R.ch.length ++ zch p3 R.di.length ++ zch p4 R.cl.length)
instance (g : Nat) (R : Rf) : Thing (RfZ g R) :=
 ⟨fun {w w' B M} ⟨p1, c1, p2, c2, p3, c3, p4, c4, h, e⟩ k hM => by
   subst e
   refine ⟨p1, c1, p2, c2, p3, c3, p4, c4, ⟨h.row.kpd k (hM g (by simp)), h.s1.kpd k fun b hb => hM b ?_, h.s2.kpd k fun b hb => hM b ?_, h.s3.kpd k fun b hb => hM b ?_, h.s4.kpd k fun b hb => hM b ?_⟩, rfl⟩ <;> simp [hb],
  fun {w B} ⟨p1, c1, p2, c2, p3, c3, p4, c4, h, e⟩ b hb => by
   subst e
   simp only [List.mem_cons, List.mem_append] at hb
   rcases hb with rfl | ((hb | hb) | hb) | hb
   ·exact h.row.lt
   ·exact h.s1.lt (by omega) b hb
   ·exact h.s2.lt (by omega) b hb
   ·exact h.s3.lt (by omega) b hb
   ·exact h.s4.lt (by omega) b hb⟩
def ze9 (g : Nat) (R : Rf) (B : List Nat) (w w' : World) : Prop := (∃ B', RfZ g R w' B' ∧ ∀ b ∈ B', b ∈ B ∨ w.heap.size ≤ b) ∧ KpB [g] w w'
theorem zfu {g : Nat} {R R0 : Rf} {B : List Nat} {w w' : World} {p1 p2 p3 p4 q1 q2 q3 q4 : Option Addr} {c1 c2 c3 c4 : Nat} (h0 : B = g :: (zch q1 R0.vs.length ++ zch q2 R0.ch.length ++ zch q3 R0.di.length ++ zch q4 R0.cl.length)) (k : KpB [g] w w')
  (h : RfAt g R p1 c1 p2 c2 p3 c3 p4 c4 w')
  (h1 : (p1 = q1 ∧ R.vs.length = R0.vs.length) ∨ ∀ b ∈ zch p1 R.vs.length, w.heap.size ≤ b) (h2 : (p2 = q2 ∧ R.ch.length = R0.ch.length) ∨ ∀ b ∈ zch p2 R.ch.length, w.heap.size ≤ b)
  (h3 : (p3 = q3 ∧ R.di.length = R0.di.length) ∨ ∀ b ∈ zch p3 R.di.length, w.heap.size ≤ b) (h4 : (p4 = q4 ∧ R.cl.length = R0.cl.length) ∨ ∀ b ∈ zch p4 R.cl.length, w.heap.size ≤ b) : ze9 g R B w w' := by
 subst h0
 refine ⟨⟨_, ⟨p1, c1, p2, c2, p3, c3, p4, c4, h, rfl⟩, fun b hb => ?_⟩, k⟩
 simp only [List.mem_cons, List.mem_append] at hb ⊢
 rcases hb with rfl | ((hb | hb) | hb) | hb
 ·exact .inl (.inl rfl)
 ·rcases h1 with ⟨rfl, e⟩ | h1
  ·rw [e] at hb; exact .inl (.inr (.inl (.inl (.inl hb))))
  ·exact .inr (h1 b hb)
 ·rcases h2 with ⟨rfl, e⟩ | h1
  ·rw [e] at hb; exact .inl (.inr (.inl (.inl (.inr hb))))
  ·exact .inr (h1 b hb)
 ·rcases h3 with ⟨rfl, e⟩ | h1
  ·rw [e] at hb; exact .inl (.inr (.inl (.inr hb)))
  ·exact .inr (h1 b hb)
 ·rcases h4 with ⟨rfl, e⟩ | h1
  ·rw [e] at hb; exact .inl (.inr (.inr hb))
  ·exact .inr (h1 b hb)
set_option maxRecDepth 20000 in
theorem zl3 {g DB : Nat} {R : Rf} {B : List Nat} {w : World} (h : RfZ g R w B) (hk : zps R DB) : Calls Tryz.prog 53 [.pointer (some ⟨g, 0, none⟩)].toArray w (Ret fun v w' => v = .tuple #[] ∧ ze9 g { R with di := [], rm := R.sz } B w w') := by
 obtain ⟨p1, c1, p2, c2, p3, c3, p4, c4, h, hBe⟩ := h
 have hq := h.row
 unfold rfV at hq
 have hK := KpB.refl [g] w
 have hs1 := fun w' (k : KpB [g] w w') => h.s1.kp k
 have hs2 := fun w' (k : KpB [g] w w') => h.s2.kp k
 have hs4 := fun w' (k : KpB [g] w w') => h.s4.kp k
 clear h
 refine zaw (fn := Tryz.f53) (rs := []) (n := 12) Tryz.func53 rfl rfl Tryz.ntmps53 (by kernel_rfl) rfl ?_
 refine zak (zac (zaa rfl (zab) (zaa rfl (zal rfl) (zaa rfl (zaj (off := 2) (by kernel_rfl) rfl) ?_))))
 refine za4 rfl (zaP rfl rfl rfl rfl hq (by kernel_rfl) (by first | (simp only [List.length_replicate]; omega) | (simp only [zaM]; omega) | (simp only [zae, List.length_set]; omega) | simp) (fun w901 hq ho901 => ?_))
 replace hK := hK.only ho901 (by first | (simp; done) | (right; omega))
 refine zaf (zai (zac (zaa rfl (zab) (zaa rfl (zab) (zaa rfl (zal rfl) (zaa rfl (zaj (off := 5) (by kernel_rfl) rfl) ?_))))))
 refine zaa rfl (zam rfl (Ld.zbb hq (by kernel_rfl) rfl)) ?_
 refine zaa rfl (zal rfl) (zaa rfl (zaj (off := 6) (by kernel_rfl) rfl) ?_)
 refine za4 rfl (zaP rfl rfl rfl rfl hq (by kernel_rfl) (by first | (simp only [List.length_replicate]; omega) | (simp only [zaM]; omega) | (simp only [zae, List.length_set]; omega) | simp) (fun w902 hq ho902 => ?_))
 replace hK := hK.only ho902 (by first | (simp; done) | (right; omega))
 refine zaf ?_
 refine zcx [] trivial ?_
 exact ⟨rfl, zfu hBe hK ⟨hq, hs1 _ hK, hs2 _ hK, ⟨⟨rfl, Nat.zero_le _, fun h => absurd h (by simp)⟩, by simp [zch], Nat.zero_le _⟩, hs4 _ hK⟩ (.inl ⟨rfl, rfl⟩) (.inl ⟨rfl, rfl⟩) (.inr fun b hb => by simp [zch] at hb) (.inl ⟨rfl, rfl⟩)⟩
theorem Pc.tail {g base c : Nat} {w : World} {p : Option Addr} {l : List Int} (h : zaJ w base 3 1 (.slice p l.length c) l.length (iv l)) (hg : g < base) (h1 : 1 ≤ l.length) :
  Pc g w (if c = 1 then p else p.map (·.add (1 * 1))) (l.drop 1).length 1 (c - 1) (iv (l.drop 1)) ∧ ∀ b ∈ zch (if c = 1 then p else p.map (·.add (1 * 1))) (l.drop 1).length, base ≤ b := by
 have hcap := zjo h
 have hge := zft h
 have hs := subI h.sl 1 h1 hcap
 have hbk : ∀ b ∈ zch (if c = 1 then p else p.map (·.add (1 * 1))) (l.drop 1).length, base ≤ b := fun b hb => by
  obtain ⟨h0, a, e, rfl⟩ := zdm.1 hb
  refine hge _ (zdm.2 ⟨by omega, ?_⟩)
  split at e
  ·exact ⟨a, e, rfl⟩
  ·obtain ⟨a2, e2, e3⟩ := Option.map_eq_some_iff.1 e
   exact ⟨a2, e2, by rw [← e3]; rfl⟩
 rw [show (l.drop 1).length = l.length - 1 by simp] at hbk ⊢
 exact ⟨⟨hs, fun hm => absurd (hbk g hm) (Nat.not_le.2 hg), by omega⟩, hbk⟩
set_option maxRecDepth 20000 in
set_option maxHeartbeats 2000000 in
theorem ask80 {g DB : Nat} {R : Rf} {B : List Nat} {w : World} (h : RfZ g R w B) (hk : zps R DB) (n : Nat) {x : Pg} (hx : R.vs[n]? = some x) : Calls Tryz.prog 80 [.pointer (some ⟨g, 0, none⟩), .int .i64 (n : Int)].toArray w (Ret fun v w' => v = .agg (bv x).toArray ∧ ∃ cl' : List Int, (cl'.length : Int) ≤ R.fr ∧ ze9 g { R with cl := cl' } B w w') := by
 obtain ⟨p1, c1, p2, c2, p3, c3, p4, c4, h, hBe⟩ := h
 have hq := h.row
 unfold rfV at hq
 have hml : maxLen = 9223372036854775807 := by decide
 have hK := KpB.refl [g] w
 have hs1 := fun w' (k : KpB [g] w w') => h.s1.kp k
 have hs2 := fun w' (k : KpB [g] w w') => h.s2.kp k
 have hs3 := fun w' (k : KpB [g] w w') => h.s3.kp k
 have hs4 := fun w' (k : KpB [g] w w') => h.s4.kp k
 have hnl := (List.getElem?_eq_some_iff.1 hx).1
 have hxl := hk.vs x (List.mem_of_getElem? hx)
 have hxb : (bv x).length = 512 := by rw [zae]; exact hxl
 obtain ⟨gp, op, rfl, _⟩ := h.s1.s.some (by omega)
 have hvl := hk.vl
 have hll := hk.ll
 have hfr := hk.fr
 have hfm := hk.fm
 have hdi := hk.di
 have hbb := hk.bb
 have hgl := h.row.lt
 have hwl := zjl R.cl n
 clear h
 refine zaw (fn := Tryz.f80) (rs := [.cell 4 37]) (n := 49) Tryz.func80 rfl rfl Tryz.ntmps80 (by kernel_rfl) rfl ?_
 refine zak (zac ?_)
 refine zaX rfl (zaO (List.replicate 512 (Value.int .u8 0)) (by kernel_rfl) (fun g4 w4 hg4 hr4 hb4 => ?_))
 have lt_g_g4 : g < g4 := Nat.lt_of_lt_of_le hq.lt hg4
 replace hK := hK.new hb4
 replace hq := hq.new hb4
 refine zaf (zai (zak (zak (zac (zaa rfl (zab) (zaa rfl (zal rfl) (zaa rfl (zaj (off := 2) (by kernel_rfl) rfl) ?_)))))))
 refine zaa rfl (zam rfl (Ld.zbb hq (by kernel_rfl) rfl)) ?_
 refine zaa rfl (zab) ?_
 refine zat rfl (zao (by kernel_rfl) rfl) (has82 R.di p3 c3 n w4 (hs3 _ hK).s (by omega)) ?_
 rintro _ w10 ⟨⟨b, rfl⟩, hb10⟩
 replace hK := hK.new hb10
 replace hq := hq.new hb10
 replace hr4 := hr4.new hb10
 refine zaa rfl (zcr rfl) ?_
 refine zaf (zai ?_)
 refine zh9 rfl (fun hb => ?_) (fun hb => ?_)
 ·
  refine zak (zac (zaa rfl (zab) (zaa rfl (zab) (zaa rfl (zal rfl) (zaa rfl (zaj (off := 3) (by kernel_rfl) rfl) ?_)))))
  refine zaa rfl (zam rfl (Ld.zbb hq (by kernel_rfl) rfl)) ?_
  refine zaa rfl (zab) ?_
  have hKs := hK.k.size
  have hl4 := hr4.lt
  refine zat rfl (zao (by kernel_rfl) rfl) (zhX R.cl p4 c4 n w10 (hs4 _ hK).s (by omega)) ?_
  rintro _ w18 ⟨ho, hb18⟩
  replace hK := hK.new hb18
  replace hq := hq.new hb18
  replace hr4 := hr4.new hb18
  have hz18 := hb18.size
  refine zaa rfl (zab) ?_
  refine zaX rfl (zci (e := 3) (.int .i64 n) ([.int .i64 n]) ([Value.int .i64 0]) 1 (by kernel_rfl) (by kernel_rfl) rfl rfl rfl ⟨by decide, by decide⟩ (fun g20 w20 hg20 hr20 hb20 => ?_))
  have lt_g_g20 : g < g20 := Nat.lt_of_lt_of_le hq.lt hg20
  have lt_g4_g20 : g4 < g20 := Nat.lt_of_lt_of_le hr4.lt hg20
  replace hK := hK.new hb20
  replace hq := hq.new hb20
  replace hr4 := hr4.new hb20
  replace ho := ho.new hb20
  have hs20 := hr20.slA (m := 1) (sz := 1) rfl (by omega)
  have hl20 := hr20.lt
  refine zaX rfl (za7 (e := 3) (sz := 1) (bytes := 8) (z := Value.int .i64 0) (by kernel_rfl) rfl (by kernel_rfl) rfl (by decide) rfl ho rfl hs20 (by simp [Value.oneCell']) (by unfold maxLen; omega) (by omega) (fun hm0 => by omega) (fun v21 w21 hv21 hgr21 hfr21 => ?_))
  replace hK := hK.own ho hgr21 (by omega)
  replace hq := hq.own ho hgr21 (by omega)
  replace hr4 := hr4.own ho hgr21 (by omega)
  have hfo := hv21.form
  obtain ⟨p5, c5, rfl⟩ := hfo
  have hobl : ∃ l2, woI R.cl n ++ [(n : Int)] = l2 := ⟨_, rfl⟩
  obtain ⟨l2, hl2⟩ := hobl
  have hm2 : (woI R.cl n).length + 1 = l2.length := by rw [← hl2]; simp
  have hi2 : iv (woI R.cl n) ++ [Value.int .i64 (n : Int)] = iv l2 := by rw [← hl2, zeT]; rfl
  rw [hi2] at hv21
  have hcap := zjo hv21
  refine zaa rfl (zal rfl) (zaa rfl (zaj (off := 3) (by kernel_rfl) rfl) ?_)
  refine za4 rfl (zaP rfl rfl rfl rfl hq (by kernel_rfl) (by first | (simp only [List.length_replicate]; omega) | (simp only [zaM]; omega) | (simp only [zae, List.length_set]; omega) | simp) (fun w901 hq ho901 => ?_))
  replace hK := hK.only ho901 (by first | (simp; done) | (right; omega))
  replace hr4 := hr4.only ho901 (Nat.ne_of_gt lt_g_g4)
  replace hv21 := hv21.only ho901 (by omega)
  refine zaf (zai (zak ?_))
  refine zbg [] (by kernel_rfl) ?_
  intro w902 hb902 hS902
  replace hK := hK.new hb902
  replace hq := hq.new hb902
  replace hr4 := hr4.new hb902
  replace hv21 := hv21.new hb902
  have hK_d902 := hK
  have hq_d902 := hq
  have hr4_d902 := hr4
  have hv21_d902 := hv21
  refine zah 0 (by kernel_rfl) rfl (fun _ _ => zab) ?_
  refine zah 1 (by kernel_rfl) rfl (fun _ _ => zal rfl) ?_
  refine zah 2 (by kernel_rfl) rfl (fun _ _ => zaj (off := 3) (by kernel_rfl) rfl) ?_
  refine zah 3 (by kernel_rfl) rfl (fun w' hS' => zam rfl (Ld.zbb (hq_d902.kq hS') (by kernel_rfl) rfl)) ?_
  refine zah 4 (by kernel_rfl) rfl (fun _ _ => zaA (e := 3) (sz := 1) (by kernel_rfl) rfl rfl) ?_
  refine zah 5 (by kernel_rfl) rfl (fun _ _ => zab) ?_
  refine zah 6 (by kernel_rfl) rfl (fun _ _ => zal rfl) ?_
  refine zah 7 (by kernel_rfl) rfl (fun _ _ => zaj (off := 4) (by kernel_rfl) rfl) ?_
  refine zah 8 (by kernel_rfl) rfl (fun w' hS' => zam rfl (Ld.zbb (hq_d902.kq hS') (by kernel_rfl) rfl)) ?_
  refine zah 9 (by kernel_rfl) rfl (fun _ _ => zbU rfl rfl) ?_
  refine zaR (by kernel_rfl) ?_
  refine zai ?_
  refine zaZ rfl (fun hgt => ?_) (fun hgt => ?_)
  ·
   refine zac (zaa rfl (zab) (zaa rfl (zab) (zaa rfl (zal rfl) (zaa rfl (zaj (off := 3) (by kernel_rfl) rfl) ?_))))
   refine zaa rfl (zam rfl (Ld.zbb hq (by kernel_rfl) rfl)) ?_
   refine zaa rfl (zc8 (e := 3) (sz := 1) (1) (_) (_) (by kernel_rfl) rfl ⟨_, _, rfl, rfl⟩ rfl rfl (by simp) (by omega) (by omega) (by omega)) ?_
   refine zaa rfl (zal rfl) (zaa rfl (zaj (off := 3) (by kernel_rfl) rfl) ?_)
   refine za4 rfl (zaP rfl rfl rfl rfl hq (by kernel_rfl) (by first | (simp only [List.length_replicate]; omega) | (simp only [zaM]; omega) | (simp only [zae, List.length_set]; omega) | simp) (fun w903 hq ho903 => ?_))
   replace hK := hK.only ho903 (by first | (simp; done) | (right; omega))
   replace hr4 := hr4.only ho903 (Nat.ne_of_gt lt_g_g4)
   replace hv21 := hv21.only ho903 (by omega)
   refine zaf (zai (zak (zac (zaa rfl (zab) (zaa rfl (zal rfl) (zaa rfl (zaj (off := 0) (by kernel_rfl) rfl) ?_))))))
   refine zaa rfl (zam rfl (Ld.zbb hq (by kernel_rfl) rfl)) ?_
   refine zaa rfl (zab) ?_
   refine zaa rfl (zaQ (e := 37) (sz := 512) (by kernel_rfl) rfl rfl (n) (by omega) (by omega)) ?_
   refine zaa rfl (zam rfl (zl2 (hs1 _ hK).s hk.vs hx)) ?_
   refine za4 rfl (zav 512 (bv x) rfl rfl hr4 (by kernel_rfl) (by first | assumption | (simp; done) | (simp [zae, *]; done)) (by first | assumption | (simp; done) | (simp [zae, *]; done) | rfl) (by first | exact zaL _ | assumption | (simp [Value.oneCell']; done)) (fun w904 hr4 ho904 => ?_))
   replace hK := hK.only ho904 (by first | (simp; done) | (right; omega))
   replace hq := hq.only ho904 (Nat.ne_of_lt lt_g_g4)
   replace hv21 := hv21.only ho904 (by omega)
   refine zaf (zai (zax ?_))
   refine zar [_] ⟨⟨_, rfl, Ld.zb5 (k := 512) hr4 (by kernel_rfl) (by kernel_rfl) (by first | (simp; done) | (simp [zae, *]; done) | assumption)⟩, trivial⟩ ?_
   have hd2 : l2.length - 1 = (l2.drop 1).length := by simp
   rw [hm2] at hq hv21
   rw [hd2] at hq
   have htl := Pc.tail hv21 (g := g) (by omega) (by omega)
   exact ⟨rfl, l2.drop 1, by rw [← hd2]; omega, zfu hBe hK ⟨hq, hs1 _ hK, hs2 _ hK, hs3 _ hK, htl.1⟩ (.inl ⟨rfl, rfl⟩) (.inl ⟨rfl, rfl⟩) (.inl ⟨rfl, rfl⟩) (.inr fun b hb => Nat.le_trans hKs (htl.2 b hb))⟩
  ·
   refine zau (zai (zak (zac (zaa rfl (zab) (zaa rfl (zal rfl) (zaa rfl (zaj (off := 0) (by kernel_rfl) rfl) ?_))))))
   refine zaa rfl (zam rfl (Ld.zbb hq (by kernel_rfl) rfl)) ?_
   refine zaa rfl (zab) ?_
   refine zaa rfl (zaQ (e := 37) (sz := 512) (by kernel_rfl) rfl rfl (n) (by omega) (by omega)) ?_
   refine zaa rfl (zam rfl (zl2 (hs1 _ hK).s hk.vs hx)) ?_
   refine za4 rfl (zav 512 (bv x) rfl rfl hr4 (by kernel_rfl) (by first | assumption | (simp; done) | (simp [zae, *]; done)) (by first | assumption | (simp; done) | (simp [zae, *]; done) | rfl) (by first | exact zaL _ | assumption | (simp [Value.oneCell']; done)) (fun w905 hr4 ho905 => ?_))
   replace hK := hK.only ho905 (by first | (simp; done) | (right; omega))
   replace hq := hq.only ho905 (Nat.ne_of_lt lt_g_g4)
   replace hv21 := hv21.only ho905 (by omega)
   refine zaf (zai (zax ?_))
   refine zar [_] ⟨⟨_, rfl, Ld.zb5 (k := 512) hr4 (by kernel_rfl) (by kernel_rfl) (by first | (simp; done) | (simp [zae, *]; done) | assumption)⟩, trivial⟩ ?_
   rw [hm2] at hq hv21 hgt
   exact ⟨rfl, l2, by omega, zfu hBe hK ⟨hq, hs1 _ hK, hs2 _ hK, hs3 _ hK, Pc.zgQ hv21 (by omega)⟩ (.inl ⟨rfl, rfl⟩) (.inl ⟨rfl, rfl⟩) (.inl ⟨rfl, rfl⟩) (.inr fun b hb => Nat.le_trans hKs (zft hv21 b hb))⟩
 ·
  refine zau (zai (zak (zac (zaa rfl (zab) (zaa rfl (zal rfl) (zaa rfl (zaj (off := 0) (by kernel_rfl) rfl) ?_))))))
  refine zaa rfl (zam rfl (Ld.zbb hq (by kernel_rfl) rfl)) ?_
  refine zaa rfl (zab) ?_
  refine zaa rfl (zaQ (e := 37) (sz := 512) (by kernel_rfl) rfl rfl (n) (by omega) (by omega)) ?_
  refine zaa rfl (zam rfl (zl2 (hs1 _ hK).s hk.vs hx)) ?_
  refine za4 rfl (zav 512 (bv x) rfl rfl hr4 (by kernel_rfl) (by first | assumption | (simp; done) | (simp [zae, *]; done)) (by first | assumption | (simp; done) | (simp [zae, *]; done) | rfl) (by first | exact zaL _ | assumption | (simp [Value.oneCell']; done)) (fun w906 hr4 ho906 => ?_))
  replace hK := hK.only ho906 (by first | (simp; done) | (right; omega))
  replace hq := hq.only ho906 (Nat.ne_of_lt lt_g_g4)
  refine zaf (zai (zax ?_))
  refine zar [_] ⟨⟨_, rfl, Ld.zb5 (k := 512) hr4 (by kernel_rfl) (by kernel_rfl) (by first | (simp; done) | (simp [zae, *]; done) | assumption)⟩, trivial⟩ ?_
  exact ⟨rfl, R.cl, by omega, zfu hBe hK ⟨hq, hs1 _ hK, hs2 _ hK, hs3 _ hK, hs4 _ hK⟩ (.inl ⟨rfl, rfl⟩) (.inl ⟨rfl, rfl⟩) (.inl ⟨rfl, rfl⟩) (.inl ⟨rfl, rfl⟩)⟩
def zfv (n : Int) (x : Pg) : Bool → Rec → Rec
 | put, [] => if put then [] else [⟨n, x⟩]
 | put, c :: l => (if !put && decide (n < c.num) then [⟨n, x⟩] else []) ++ ((if c.num = n then [] else [c]) ++ zfv n x (put || decide (n < c.num)) l)
theorem zok {n : Int} {x : Pg} (hx : x.length = 512) : ∀ (R : Rec) (b : Bool), zbD R → zbD (zfv n x b R) ∧ (zfv n x b R).length ≤ R.length + (if b then 0 else 1)
 | [], b, _ => by
  unfold zfv
  cases b
  ·exact ⟨fun c hc => by rw [List.mem_singleton.1 hc]; exact hx, Nat.le_refl _⟩
  ·exact ⟨(fun c hc => nomatch hc), Nat.le_refl _⟩
 | c :: R, b, h => by
  obtain ⟨h1, h2⟩ := zok hx R (b || decide (n < c.num)) fun d hd => h d (List.mem_cons_of_mem _ hd)
  unfold zfv
  constructor
  ·intro d hd
   rcases List.mem_append.1 hd with hd | hd
   ·split at hd
    ·rw [List.mem_singleton.1 hd]; exact hx
    ·cases hd
   ·rcases List.mem_append.1 hd with hd | hd
    ·split at hd
     ·cases hd
     ·rw [List.mem_singleton.1 hd]; exact h c (List.mem_cons_self ..)
    ·exact h1 d hd
  ·rw [List.length_append, List.length_append, List.length_cons]
   have e1 : (if c.num = n then [] else [c]).length ≤ 1 := by split <;> simp
   cases b <;> by_cases hc : n < c.num <;> simp [hc] at h2 ⊢ <;> omega
theorem zol {n : Int} {x : Pg} {b : Bool} {R : Rec} {i : Nat} {c : Ch} (h : R[i]? = some c) : zfv n x b (R.drop i) = (if !b && decide (n < c.num) then [⟨n, x⟩] else []) ++ ((if c.num = n then [] else [c]) ++ zfv n x (b || decide (n < c.num)) (R.drop (i + 1))) := by
 have hi := (List.getElem?_eq_some_iff.1 h)
 obtain ⟨h1, h2⟩ := hi
 rw [List.drop_eq_getElem_cons h1, h2, zfv]
theorem ze9.trans {g : Nat} {R2 : Rf} {B B1 : List Nat} {w w1 w2 : World} (hB : ∀ b ∈ B1, b ∈ B ∨ w.heap.size ≤ b) (k : KpB [g] w w1) (h : ze9 g R2 B1 w1 w2) : ze9 g R2 B w w2 := by
 obtain ⟨⟨B2, h1, h2⟩, k2⟩ := h
 exact ⟨⟨B2, h1, fun b hb => (h2 b hb).elim (hB b) fun hl => .inr (Nat.le_trans k.k.size hl)⟩, ⟨k.k.trans k2.k⟩⟩
set_option maxHeartbeats 4000000 in
set_option maxRecDepth 20000 in
theorem put50 {g DB : Nat} {R : Rf} {B : List Nat} {w : World} (h : RfZ g R w B) (hk : zps R DB) (n : Nat) {x v0 : Pg} (hv0 : R.vs[n]? = some v0) (hx : x.length = 512) : Calls Tryz.prog 50 [.pointer (some ⟨g, 0, none⟩), .int .i64 (n : Int), .agg (bv x).toArray].toArray w (Ret fun v w' => v = .tuple #[] ∧ ∃ cl' : List Int, (cl'.length : Int) ≤ R.fr ∧ ze9 g { R with cl := cl', ch := zfv n x (decide (x = v0)) R.ch } B w w') := by
 have hml : maxLen = 9223372036854775807 := by decide
 have hxb : (bv x).length = 512 := by rw [zae]; exact hx
 have hvl := hk.vs v0 (List.mem_of_getElem? hv0)
 have hvb : (bv v0).length = 512 := by rw [zae]; exact hvl
 have hK := KpB.refl [g] w
 have hask := fun w' (h' : RfZ g R w' B) => ask80 h' hk n hv0
 have hgl : g < w.heap.size := by
   obtain ⟨p1, c1, p2, c2, p3, c3, p4, c4, h, _⟩ := h
   exact h.row.lt
 have hz : ∀ w', Below w.heap.size w w' → RfZ g R w' B := fun w' hb => Thing.kpd h (M := []) (Kp.of_below hb) (by simp)
 have hcl := hk.cl
 have hchl : (chV ⟨n, x⟩).length = 1 * 513 := zcX hx
 have hch1 := zdq ⟨n, x⟩
 obtain ⟨b0, hb0⟩ : ∃ b0, decide (x = v0) = b0 := ⟨_, rfl⟩
 obtain ⟨hio, hil⟩ := zok (n := (n : Int)) hx R.ch b0 hk.ch
 rw [hb0]
 refine zaw (fn := Tryz.f50) (rs := []) (n := 77) Tryz.func50 rfl rfl Tryz.ntmps50 (by kernel_rfl) rfl ?_
 refine zak (zac ?_)
 refine zaX rfl (zca (bv x) rfl (fun g5 w5 hg5 hr5 hb5 => ?_))
 replace hK := hK.new hb5
 have hz5 := hz _ hb5
 have hl5' := hr5.lt
 refine zaf (zai (zak (zac (zaa rfl (zab) (zaa rfl (zab) ?_)))))
 refine zat rfl (zao (by kernel_rfl) rfl) (hask w5 hz5) ?_
 rintro _ w12 ⟨rfl, cl', hcl', hb12⟩
 obtain ⟨⟨B1, hz1, hB1⟩, hk1⟩ := hb12
 replace hK := hK.kpd hk1.k (by first | (simp; done) | (simp; omega))
 replace hr5 := hr5.kpd hk1.k (by first | (simp; done) | (simp; omega))
 obtain ⟨p1, c1, p2, c2, p3, c3, p4, c4, h1, hBe⟩ := hz1
 have hq := h1.row
 unfold rfV at hq
 dsimp only at hq
 have hK1 := KpB.refl [g] w12
 have hs1 := fun w' (k : KpB [g] w12 w') => h1.s1.kp k
 have hs2 := fun w' (k : KpB [g] w12 w') => h1.s2.kp k
 have hs3 := fun w' (k : KpB [g] w12 w') => h1.s3.kp k
 have hs4 := fun w' (k : KpB [g] w12 w') => h1.s4.kp k
 have hkB := fun w' (R2 : Rf) (h : ze9 g R2 B1 w12 w') => h.trans (fun b hb => (hB1 b hb).imp id (Nat.le_trans hb5.size)) hK
 dsimp only at hs1 hs2 hs3 hs4
 clear h1
 refine zaX rfl (zaO (List.replicate 512 (Value.int .u8 0)) (by kernel_rfl) (fun g6 w6 hg6 hr6 hb6 => ?_))
 have lt_g5_g6 : g5 < g6 := Nat.lt_of_lt_of_le hr5.lt hg6
 have lt_g_g6 : g < g6 := Nat.lt_of_lt_of_le hq.lt hg6
 replace hr5 := hr5.new hb6
 replace hK1 := hK1.new hb6
 replace hq := hq.new hb6
 refine za4 rfl (zav 512 (bv v0) rfl rfl hr6 (by kernel_rfl) (by first | assumption | (simp; done) | (simp [zae, *]; done)) (by first | assumption | (simp; done) | (simp [zae, *]; done) | rfl) (by first | exact zaL _ | assumption | (simp [Value.oneCell']; done)) (fun w901 hr6 ho901 => ?_))
 replace hr5 := hr5.only ho901 (Nat.ne_of_lt lt_g5_g6)
 replace hK1 := hK1.only ho901 (by first | (simp; done) | (right; omega))
 replace hq := hq.only ho901 (Nat.ne_of_lt lt_g_g6)
 refine zaf (zai (zak (zac (zaa rfl (zad) (zaf (zai (zak (zac ?_))))))))
 refine zaa rfl (zam rfl (Ld.zb5 (k := 512) hr5 (by kernel_rfl) (by kernel_rfl) (by first | (simp; done) | (simp [zae, *]; done) | assumption))) ?_
 refine zaa rfl (zam rfl (Ld.zb5 (k := 512) hr6 (by kernel_rfl) (by kernel_rfl) (by first | (simp; done) | (simp [zae, *]; done) | assumption))) ?_
 refine zaa rfl (zkH (n := 512) (by kernel_rfl) rfl rfl hx hvl) ?_
 refine zaa rfl (zad) (zaf (zai (zak (zak (zac (zaa rfl (zad) (zaf (zai (zaD ?_)))))))))
 have hl5b := Nat.lt_of_lt_of_le hl5' hk1.k.size
 have hobt : ∃ lo1, w12.heap.size = lo1 := ⟨_, rfl⟩
 obtain ⟨lo1, hlo1⟩ := hobt
 rw [hlo1] at hl5b
 refine zbF (α := Nat × Bool × Value × Rec) (0, b0, .slice none 0 0, []) (fun a => [(9, .int .i64 (a.1 : Nat)), (8, .bool a.2.1), (7, a.2.2.1), (0, .pointer (some ⟨g, 0, none⟩)), (1, .int .i64 (n : Int)), (5, .pointer (some ⟨g5, 0, none⟩))])
   (fun a w' => a.1 ≤ R.ch.length ∧ a.2.2.2 ++ zfv n x a.2.1 (R.ch.drop a.1) = zfv n x b0 R.ch ∧ zaJ w' lo1 73 513 a.2.2.1 a.2.2.2.length (zbT a.2.2.2) ∧ row w' g [.slice p1 R.vs.length c1, .slice p2 R.ch.length c2, .slice p3 R.di.length c3, .slice p4 cl'.length c4, .int .i64 R.fr, .int .i64 R.sz, .int .i64 R.rm] 89 ∧ row w' g5 (bv x) 37 ∧ KpB [g] w12 w') (fun a => R.ch.length - a.1)
   ⟨rfl, (by show Value.bool (decide (x = v0)) = Value.bool b0; rw [hb0]), rfl, rfl, rfl, rfl, rfl⟩ ⟨Nat.zero_le _, rfl, zby _ _ _ _, hq, hr5, hK1⟩ ?_
 clear hq hr5 hK1 hr6 hK hz5
 rintro ⟨i, b, u, A⟩ f wr ⟨hi, hA, hu, hq, hr5, hK1⟩
 dsimp only at hi hA hu ⊢
 have hAl : A.length ≤ 1001 := by
   have e := congrArg List.length hA
   rw [List.length_append] at e
   have : (if b0 = true then 0 else 1) ≤ 1 := by split <;> omega
   omega
 have hobc : ∃ c, i < R.ch.length → R.ch[i]? = some c := by
   by_cases h : i < R.ch.length
   · exact ⟨_, fun _ => List.getElem?_eq_getElem h⟩
   · exact ⟨⟨0, []⟩, fun h2 => absurd h2 h⟩
 obtain ⟨c, hcd⟩ := hobc
 refine zak (zak (zac (zaa rfl (zab) (zaa rfl (zab) (zaa rfl (zal rfl) (zaa rfl (zaj (off := 1) (by kernel_rfl) rfl) ?_))))))
 refine zaa rfl (zam rfl (Ld.zbb hq (by kernel_rfl) rfl)) ?_
 refine zaa rfl (zaA (e := 73) (sz := 513) (by kernel_rfl) rfl rfl) ?_
 refine zaa rfl (zbd rfl rfl) ?_
 refine zaf (zai ?_)
 refine zaZ rfl (fun hlt => ?_) (fun hlt => ?_)
 ·
  refine zau (zai (zak (zaD ?_)))
  refine zjy (fun a : Bool × Value × Rec => [(9, .int .i64 (i : Nat)), (8, .bool a.1), (7, a.2.1), (0, .pointer (some ⟨g, 0, none⟩)), (1, .int .i64 (n : Int)), (5, .pointer (some ⟨g5, 0, none⟩))]) (fun a w' => a.2.2 ++ ((if c.num = n then [] else [c]) ++ zfv n x a.1 (R.ch.drop (i + 1))) = zfv n x b0 R.ch ∧ zaJ w' lo1 73 513 a.2.1 a.2.2.length (zbT a.2.2) ∧ row w' g [.slice p1 R.vs.length c1, .slice p2 R.ch.length c2, .slice p3 R.di.length c3, .slice p4 cl'.length c4, .int .i64 R.fr, .int .i64 R.sz, .int .i64 R.rm] 89 ∧ row w' g5 (bv x) 37 ∧ KpB [g] w12 w') ?_ ?_
  ·
   refine zak ?_
   have hc := hcd (by omega)
   have hs2w := (hs2 _ hK1).s
   have hobt := hs2w.some (by omega)
   obtain ⟨gp, op, rfl, _⟩ := hobt
   have hdr := zol (n := (n : Int)) (x := x) (b := b) hc
   refine zac (zaa rfl (zab) ?_)
   refine zaa rfl (zcr rfl) ?_
   refine zaa rfl (zab) ?_
   refine zeM 27 rfl (fun hput => ?_) (fun hput => ?_)
   ·
    refine zas rfl (zaa rfl (zab) (zas rfl (zaa rfl (zal rfl) (zas rfl (zaa rfl (zaj (off := 1) (by kernel_rfl) rfl) (zas rfl ?_))))))
    refine zaa rfl (zam rfl (Ld.zbb hq (by kernel_rfl) rfl)) ?_
    refine zas rfl (zaa rfl (zab) (zas rfl ?_))
    refine zaa rfl (zaQ (e := 73) (sz := 513) (by kernel_rfl) rfl rfl (i) (by omega) (by omega)) ?_
    refine zas rfl (zaa rfl (zaj (off := 0) (by kernel_rfl) rfl) (zas rfl ?_))
    refine zaa rfl (zam rfl (zn4 hs2w hk.ch hc)) ?_
    refine zas rfl (zaa rfl (zab) (zas rfl ?_))
    refine zaa rfl (zbU rfl rfl) ?_
    refine zaa rfl (zay rfl) (zaf (zai ?_))
    refine zaZ rfl (fun hgt => ?_) (fun hgt => ?_)
    ·
     refine zak (zac (zaa rfl (zab) (zaa rfl (zab) ?_)))
     refine zaa rfl (zam rfl (Ld.zb5 (k := 512) hr5 (by kernel_rfl) (by kernel_rfl) (by first | (simp; done) | (simp [zae, *]; done) | assumption))) ?_
     refine zaa rfl (zed hx rfl rfl rfl) ?_
     refine zaX rfl (zci (e := 73) ((.agg (chV ⟨n, x⟩).toArray)) (chV ⟨n, x⟩) (([Value.int .i64 0]) ++ (List.replicate 512 (Value.int .u8 0))) 513 (by kernel_rfl) (by kernel_rfl) rfl rfl (by first | rfl | (simp; done) | (simp [zae, *]; done)) ⟨by decide, by decide⟩ (fun g43 w43 hg43 hr43 hb43 => ?_))
     have lt_g5_g43 : g5 < g43 := Nat.lt_of_lt_of_le hr5.lt hg43
     have lt_g_g43 : g < g43 := Nat.lt_of_lt_of_le hq.lt hg43
     replace hr5 := hr5.new hb43
     replace hK1 := hK1.new hb43
     replace hq := hq.new hb43
     replace hu := hu.new hb43
     have hs43 := hr43.slA (m := 1) (sz := 513) hchl (by omega)
     have hKs43 := hK1.k.size
     refine zaX rfl (za7 (e := 73) (sz := 513) (bytes := 520) (z := .agg (([Value.int .i64 0]) ++ (List.replicate 512 (Value.int .u8 0))).toArray) (by kernel_rfl) rfl (by kernel_rfl) rfl (by decide) rfl hu rfl hs43 hch1 (by unfold maxLen; omega) (by omega) (fun hm0 => by omega) (fun v44 w44 hv44 hgr44 hfr44 => ?_))
     replace hr5 := hr5.own hu hgr44 (by omega)
     replace hK1 := hK1.own hu hgr44 (by omega)
     replace hq := hq.own hu hgr44 (by omega)
     refine zaa rfl (zad) (zaf (zai (zac (zaa rfl (zad) (zaf ?_)))))
     rw [← zdN] at hv44
     refine zbq ⟨(true, v44, A ++ [⟨n, x⟩]), ⟨rfl, rfl, rfl, rfl, rfl, rfl, rfl⟩, ?_, by rw [List.length_append]; exact hv44, hq, hr5, hK1⟩
     rw [← hA, hdr]
     have hb2 : b = false := by simpa using hput
     have hg2 : (n : Int) < c.num := by omega
     subst hb2
     simp [hg2]
    ·
     refine zau ?_
     have hb2 : b = false := by simpa using hput
     have hg2 : ¬ (n : Int) < c.num := by omega
     subst hb2
     refine zbq ⟨(false, u, A), ⟨rfl, rfl, rfl, rfl, rfl, rfl, rfl⟩, ?_, hu, hq, hr5, hK1⟩
     rw [← hA, hdr]
     simp [hg2]
   ·
    refine zaE rfl rfl (zaE rfl rfl (zaE rfl rfl (zaE rfl rfl (zaE rfl rfl (zaE rfl rfl (zaE rfl rfl (zaE rfl rfl (zaE rfl rfl (zaE rfl rfl (zaa rfl (zaz rfl) (zaf ?_)))))))))))
    refine zai ?_
    refine W_f rfl ?_
    refine zau ?_
    have hb2 : b = true := by simpa using hput
    subst hb2
    refine zbq ⟨(true, u, A), ⟨rfl, rfl, rfl, rfl, rfl, rfl, rfl⟩, ?_, hu, hq, hr5, hK1⟩
    rw [← hA, hdr]
    simp
  ·
   clear hA hu hq hr5 hK1
   rintro ⟨b, u, A⟩ f2 w2 ⟨hA, hu, hq, hr5, hK1⟩
   have hc := hcd (by omega)
   dsimp only at hA hu ⊢
   have hAl : A.length ≤ 1001 := by
     have e := congrArg List.length hA
     rw [List.length_append] at e
     have : (if b0 = true then 0 else 1) ≤ 1 := by split <;> omega
     omega
   have hs2w := (hs2 _ hK1).s
   have hobt := hs2w.some (by omega)
   obtain ⟨gp, op, rfl, _⟩ := hobt
   refine zak (zac (zaa rfl (zab) (zaa rfl (zal rfl) (zaa rfl (zaj (off := 1) (by kernel_rfl) rfl) ?_))))
   refine zaa rfl (zam rfl (Ld.zbb hq (by kernel_rfl) rfl)) ?_
   refine zaa rfl (zab) ?_
   refine zaa rfl (zaQ (e := 73) (sz := 513) (by kernel_rfl) rfl rfl (i) (by omega) (by omega)) ?_
   refine zaa rfl (zaj (off := 0) (by kernel_rfl) rfl) ?_
   refine zaa rfl (zam rfl (zn4 hs2w hk.ch hc)) ?_
   refine zaa rfl (zab) ?_
   refine zaa rfl (zaW rfl rfl) ?_
   refine zaf (zai ?_)
   refine zaZ rfl (fun hne => ?_) (fun hne => ?_)
   ·
    refine zac (zaa rfl (zab) (zaa rfl (zab) (zaa rfl (zal rfl) (zaa rfl (zaj (off := 1) (by kernel_rfl) rfl) ?_))))
    refine zaa rfl (zam rfl (Ld.zbb hq (by kernel_rfl) rfl)) ?_
    refine zaa rfl (zab) ?_
    refine zaa rfl (zaQ (e := 73) (sz := 513) (by kernel_rfl) rfl rfl (i) (by omega) (by omega)) ?_
    refine zaa rfl (zam rfl (zkZ hs2w hk.ch hc)) ?_
    have hcl2 := zcX (hk.ch c (List.mem_of_getElem? hc))
    refine zaX rfl (zci (e := 73) ((.agg (chV c).toArray)) (chV c) (([Value.int .i64 0]) ++ (List.replicate 512 (Value.int .u8 0))) 513 (by kernel_rfl) (by kernel_rfl) rfl rfl (by first | rfl | (simp; done) | (simp [zae, *]; done)) ⟨by decide, by decide⟩ (fun g63 w63 hg63 hr63 hb63 => ?_))
    have lt_g5_g63 : g5 < g63 := Nat.lt_of_lt_of_le hr5.lt hg63
    have lt_g_g63 : g < g63 := Nat.lt_of_lt_of_le hq.lt hg63
    replace hr5 := hr5.new hb63
    replace hK1 := hK1.new hb63
    replace hq := hq.new hb63
    replace hu := hu.new hb63
    have hs63 := hr63.slA (m := 1) (sz := 513) hcl2 (by omega)
    have hKs63 := hK1.k.size
    refine zaX rfl (za7 (e := 73) (sz := 513) (bytes := 520) (z := .agg (([Value.int .i64 0]) ++ (List.replicate 512 (Value.int .u8 0))).toArray) (by kernel_rfl) rfl (by kernel_rfl) rfl (by decide) rfl hu rfl hs63 (zdq c) (by unfold maxLen; omega) (by omega) (fun hm0 => by omega) (fun v64 w64 hv64 hgr64 hfr64 => ?_))
    replace hr5 := hr5.own hu hgr64 (by omega)
    replace hK1 := hK1.own hu hgr64 (by omega)
    replace hq := hq.own hu hgr64 (by omega)
    refine zaa rfl (zad) (zaf (za2 (zai (zac (zaa rfl (zab) ?_)))))
    refine zaa rfl (zaV rfl rfl (Coup.w64 (by omega))) ?_
    refine zaa rfl (zad) (zaf ?_)
    rw [← zdN] at hv64
    rw [if_neg hne] at hA
    refine zbq ⟨(i + 1, b, v64, A ++ [c]), by omega, ⟨by go_num, rfl, rfl, rfl, rfl, rfl, rfl⟩, by omega, by rw [← hA]; simp, by rw [List.length_append]; exact hv64, hq, hr5, hK1⟩
   ·
    have hne2 : c.num = n := by simpa using hne
    rw [if_pos hne2] at hA
    refine zau (za2 (zai (zac (zaa rfl (zab) ?_))))
    refine zaa rfl (zaV rfl rfl (Coup.w64 (by omega))) ?_
    refine zaa rfl (zad) (zaf ?_)
    refine zbq ⟨(i + 1, b, u, A), by omega, ⟨by go_num, rfl, rfl, rfl, rfl, rfl, rfl⟩, by omega, by rw [← hA]; simp, hu, hq, hr5, hK1⟩
 ·
  have hil2 : i = R.ch.length := by omega
  subst hil2
  rw [List.drop_length] at hA
  refine zbp (zbW (zb9 (zbw (zai (zak (zak (zac (zaa rfl (zab) ?_))))))))
  refine zaa rfl (zcr rfl) ?_
  refine zaf (zai ?_)
  refine zh9 rfl (fun hput => ?_) (fun hput => ?_)
  ·
   refine zac (zaa rfl (zab) (zaa rfl (zab) ?_))
   refine zaa rfl (zam rfl (Ld.zb5 (k := 512) hr5 (by kernel_rfl) (by kernel_rfl) (by first | (simp; done) | (simp [zae, *]; done) | assumption))) ?_
   refine zaa rfl (zed hx rfl rfl rfl) ?_
   refine zaX rfl (zci (e := 73) ((.agg (chV ⟨n, x⟩).toArray)) (chV ⟨n, x⟩) (([Value.int .i64 0]) ++ (List.replicate 512 (Value.int .u8 0))) 513 (by kernel_rfl) (by kernel_rfl) rfl rfl (by first | rfl | (simp; done) | (simp [zae, *]; done)) ⟨by decide, by decide⟩ (fun g71 w71 hg71 hr71 hb71 => ?_))
   have lt_g5_g71 : g5 < g71 := Nat.lt_of_lt_of_le hr5.lt hg71
   have lt_g_g71 : g < g71 := Nat.lt_of_lt_of_le hq.lt hg71
   replace hr5 := hr5.new hb71
   replace hK1 := hK1.new hb71
   replace hq := hq.new hb71
   replace hu := hu.new hb71
   have hs71 := hr71.slA (m := 1) (sz := 513) hchl (by omega)
   have hKs71 := hK1.k.size
   refine zaX rfl (za7 (e := 73) (sz := 513) (bytes := 520) (z := .agg (([Value.int .i64 0]) ++ (List.replicate 512 (Value.int .u8 0))).toArray) (by kernel_rfl) rfl (by kernel_rfl) rfl (by decide) rfl hu rfl hs71 hch1 (by unfold maxLen; omega) (by omega) (fun hm0 => by omega) (fun v72 w72 hv72 hgr72 hfr72 => ?_))
   replace hr5 := hr5.own hu hgr72 (by omega)
   replace hK1 := hK1.own hu hgr72 (by omega)
   replace hq := hq.own hu hgr72 (by omega)
   rw [← zdN] at hv72
   have hob : ∃ A2, A ++ [(⟨n, x⟩ : Ch)] = A2 := ⟨_, rfl⟩
   obtain ⟨A2, hA2⟩ := hob
   have hA3 : A.length + 1 = A2.length := by rw [← hA2]; simp
   rw [hA2, hA3] at hv72
   have hfo := hv72.form
   obtain ⟨p7, c7, rfl⟩ := hfo
   refine zaa rfl (zad) (zaf (zai (zac (zaa rfl (zab) (zaa rfl (zab) (zaa rfl (zal rfl) (zaa rfl (zaj (off := 1) (by kernel_rfl) rfl) ?_)))))))
   refine za4 rfl (zaP rfl rfl rfl rfl hq (by kernel_rfl) (by first | (simp only [List.length_replicate]; omega) | (simp only [zaM]; omega) | (simp only [zae, List.length_set]; omega) | simp) (fun w902 hq ho902 => ?_))
   replace hr5 := hr5.only ho902 (by omega)
   replace hK1 := hK1.only ho902 (by first | (simp; done) | (right; omega))
   replace hv72 := hv72.only ho902 (by omega)
   refine zaf ?_
   refine zcx [] trivial ?_
   have hb2 : b = false := by simpa using hput
   subst hb2
   have hA4 : zfv n x b0 R.ch = A2 := by rw [← hA2, ← hA]; simp [zfv]
   rw [hA4]
   exact ⟨rfl, cl', hcl', hkB _ _ (zfu hBe hK1 ⟨hq, hs1 _ hK1, Pc.zgQ hv72 (by omega), hs3 _ hK1, hs4 _ hK1⟩ (.inl ⟨rfl, rfl⟩) (.inr fun b hb => hlo1 ▸ zft hv72 b hb) (.inl ⟨rfl, rfl⟩) (.inl ⟨rfl, rfl⟩))⟩
  ·
   have hb2 : b = true := by simpa using hput
   subst hb2
   have hA4 : zfv n x b0 R.ch = A := by rw [← hA]; simp [zfv]
   rw [hA4]
   have hfo := hu.form
   obtain ⟨p7, c7, rfl⟩ := hfo
   refine zau (zai (zac (zaa rfl (zab) (zaa rfl (zab) (zaa rfl (zal rfl) (zaa rfl (zaj (off := 1) (by kernel_rfl) rfl) ?_))))))
   refine za4 rfl (zaP rfl rfl rfl rfl hq (by kernel_rfl) (by first | (simp only [List.length_replicate]; omega) | (simp only [zaM]; omega) | (simp only [zae, List.length_set]; omega) | simp) (fun w903 hq ho903 => ?_))
   replace hr5 := hr5.only ho903 (by omega)
   replace hK1 := hK1.only ho903 (by first | (simp; done) | (right; omega))
   replace hu := hu.only ho903 (by omega)
   refine zaf ?_
   refine zcx [] trivial ?_
   exact ⟨rfl, cl', hcl', hkB _ _ (zfu hBe hK1 ⟨hq, hs1 _ hK1, Pc.zgQ hu (by omega), hs3 _ hK1, hs4 _ hK1⟩ (.inl ⟨rfl, rfl⟩) (.inr fun b hb => hlo1 ▸ zft hu b hb) (.inl ⟨rfl, rfl⟩) (.inl ⟨rfl, rfl⟩))⟩
def vsS (l : List Pg) (T : Rec) : List Pg := T.foldl (fun l c => l.set c.num.toNat c.page) l
theorem zom : ∀ (T : Rec) (l : List Pg), (vsS l T).length = l.length
 | [], _ => rfl
 | c :: T, l => by
  have := zom T (l.set c.num.toNat c.page)
  rw [List.length_set] at this
  exact this
theorem zon : ∀ (T : Rec) (l : List Pg), zmM l → zbD T → zmM (vsS l T)
 | [], _, h, _ => h
 | c :: T, l, h, hT => zon T (l.set c.num.toNat c.page) (fun p hp => by
  rcases List.mem_or_eq_of_mem_set hp with e | e
  ·exact h p e
  ·rw [e]; exact hT c (List.mem_cons_self ..)) fun d hd => hT d (List.mem_cons_of_mem _ hd)
theorem zpt {T : Rec} {i : Nat} {c : Ch} (h : T[i]? = some c) (l : List Pg) : vsS l (T.take (i + 1)) = (vsS l (T.take i)).set c.num.toNat c.page := by
 rw [List.take_add_one, h, vsS, List.foldl_append]
 rfl
def zkx (R : Rf) : Int := if R.ch.length = 0 then 0 else if zbK (R.ch.length : Int) = 0 then 3 else if R.sz < zbK (R.ch.length : Int) then 8 else 0
theorem zpu {w : World} {base e sz m : Nat} {v : Value} {xs : List Value} (h : zaJ w base e sz v m xs) (h0 : 0 < m) : ∃ g o c, v = .slice (some ⟨g, o, none⟩) m c ∧ base ≤ g := by
 rcases h.2 with ⟨_, h1⟩ | ⟨g', off, cap, cur, he, hb, _⟩
 ·omega
 ·exact ⟨g', off, cap, he, hb⟩
theorem ld_chpg {w : World} {g o n : Nat} {R : Rec} (h : za9 w (some ⟨g, o, none⟩) n 513 (zbT R)) (hR : zbD R) {i : Nat} {c : Ch} (hc : R[i]? = some c) : Ld Tryz.prog w 37 ⟨g, o + i * 513 + 1, none⟩ (.agg (bv c.page).toArray) := by
 have hi := (List.getElem?_eq_some_iff.1 hc).1
 have hl := zcg hR
 have h1 := Ld.slN (P := Tryz.prog) (t := 37) (j := i * 513 + 1) (k := 512) h (by kernel_rfl) (by kernel_rfl) (by omega)
 have hat := zi3 hR hc
 have hpl := hR c (List.mem_of_getElem? hc)
 have e : ((zbT R).drop (i * 513 + 1)).take 512 = bv c.page := by
  have e1 : ((zbT R).drop (i * 513 + 1)).take 512 = ((((zbT R).drop (i * 513)).take 513).drop 1) := by
   rw [List.drop_take, List.drop_drop]
  rw [e1, hat, chV, List.drop_succ_cons, List.drop_zero]
 rw [e, ← Nat.add_assoc] at h1
 exact h1
theorem zpv {n : Nat} (h0 : zbK (n : Int) ≠ 0) : 0 < zbK (n : Int) ∧ zbK (n : Int) ≤ 10000 := by
 unfold zbK at h0 ⊢
 split
 ·rename_i h
  rw [if_pos h] at h0
  refine ⟨by omega, ?_⟩
  rw [Int.toNat_natCast]
  unfold zaY za1
  omega
 ·rename_i h
  rw [if_neg h] at h0
  exact absurd rfl h0
structure ComR (R R' : Rf) : Prop where
 vs : R'.vs = if zkx R = 0 then vsS R.vs R.ch else R.vs
 ch : R'.ch = if zkx R = 0 then [] else R.ch
 di : R'.di.length ≤ R.di.length + R.ch.length
 cl : R'.cl.length ≤ R.cl.length
 fr : R'.fr = R.fr
 sz : R'.sz = R.sz
 r0 : 0 ≤ R'.rm
 rs : R'.rm ≤ R'.sz
set_option maxHeartbeats 4000000 in
set_option maxRecDepth 20000 in
theorem zpw {g DB : Nat} {R : Rf} {B : List Nat} {w : World} (h : RfZ g R w B) (hk : zps R DB) (hnum : ∀ c ∈ R.ch, ∃ m : Nat, c.num = m ∧ m < R.vs.length) : Calls Tryz.prog 51 [.pointer (some ⟨g, 0, none⟩)].toArray w (Ret fun v w' => v = .int .i64 (zkx R) ∧ ∃ R', ComR R R' ∧ ze9 g R' B w w') := by
 have hml : maxLen = 9223372036854775807 := by decide
 obtain ⟨hvs, hvl, hch, hcl, hdi, hbb, hll, hfr, hfm, hrm, hrs, hsm⟩ := hk
 have hne := fun w' => rneed11 (R.ch.length : Int) w'
 obtain ⟨nd, hnd⟩ : ∃ nd, zbK (R.ch.length : Int) = nd := ⟨_, rfl⟩
 have hnp := fun h => zpv (n := R.ch.length) h
 rw [hnd] at hnp
 simp only [hnd] at hne
 have hgl : g < w.heap.size := by
   obtain ⟨p1, c1, p2, c2, p3, c3, p4, c4, h, _⟩ := h
   exact h.row.lt
 have hN : ze9 g R B w w := ⟨⟨B, h, fun b hb => .inl hb⟩, KpB.refl [g] w⟩
 have hNb := hN
 obtain ⟨E, hE⟩ : ∃ E, zkx R = E := ⟨_, rfl⟩
 unfold zkx at hE
 rw [hnd] at hE
 have hcr : ∀ di cl (rm : Int), di.length ≤ R.di.length + R.ch.length → cl.length ≤ R.cl.length → 0 ≤ rm → rm ≤ R.sz → E = 0 → ComR R { R with vs := vsS R.vs R.ch, ch := [], di := di, cl := cl, rm := rm } := fun di cl rm h1 h2 h3 h4 h5 =>
   ⟨by unfold zkx; rw [hnd, hE, if_pos h5], by unfold zkx; rw [hnd, hE, if_pos h5], h1, h2, rfl, rfl, h3, h4⟩
 have hcr0 : E ≠ 0 ∨ R.ch.length = 0 → ComR R R := fun h5 => by
   refine ⟨?_, ?_, by omega, Nat.le_refl _, rfl, rfl, hrm, hrs⟩
   · unfold zkx; rw [hnd, hE]
     split
     · rcases h5 with h5 | h5
       ·contradiction
       ·rw [List.eq_nil_of_length_eq_zero h5]; rfl
     · rfl
   · unfold zkx; rw [hnd, hE]
     split
     · rcases h5 with h5 | h5
       ·contradiction
       ·exact List.eq_nil_of_length_eq_zero h5
     · rfl
 have hEE : zkx R = E := by unfold zkx; rw [hnd]; exact hE
 rw [hEE]
 obtain ⟨⟨B2, hz2, hB2⟩, hk2⟩ := hN
 obtain ⟨p1, c1, p2, c2, p3, c3, p4, c4, h2, hBe2⟩ := hz2
 have hq := h2.row
 unfold rfV at hq
 try dsimp only at hq
 have hK2 := KpB.refl [g] w
 have hs1 := fun w' (k : KpB [g] w w') => h2.s1.kp k
 have hs2 := fun w' (k : KpB [g] w w') => h2.s2.kp k
 have hs3 := fun w' (k : KpB [g] w w') => h2.s3.kp k
 have hs4 := fun w' (k : KpB [g] w w') => h2.s4.kp k
 have hTr := fun w' (R2 : Rf) (h : ze9 g R2 B2 w w') => h.trans hB2 hk2
 try dsimp only at hs1 hs2 hs3 hs4
 clear h2
 refine zaw (fn := Tryz.f51) (rs := [.tmp 2]) (n := 113) Tryz.func51 rfl rfl Tryz.ntmps51 (by kernel_rfl) rfl ?_
 refine zak (zac (zaa rfl (zad) (zaf (zai (zak (zac (zaa rfl (zab) (zaa rfl (zal rfl) (zaa rfl (zaj (off := 1) (by kernel_rfl) rfl) ?_)))))))))
 refine zaa rfl (zam rfl (Ld.zbb hq (by kernel_rfl) rfl)) ?_
 refine zaa rfl (zaA (e := 73) (sz := 513) (by kernel_rfl) rfl rfl) ?_
 refine zat rfl (zao (by kernel_rfl) rfl) (hne w) ?_
 rintro _ _ ⟨rfl, rfl⟩
 refine zaa rfl (zad) (zaf (zai (zak (zaD (zak (zac (zaa rfl (zab) (zaa rfl (zal rfl) (zaa rfl (zaj (off := 1) (by kernel_rfl) rfl) ?_)))))))))
 refine zaa rfl (zam rfl (Ld.zbb hq (by kernel_rfl) rfl)) ?_
 refine zaa rfl (zaA (e := 73) (sz := 513) (by kernel_rfl) rfl rfl) ?_
 refine zaa rfl (zbr rfl rfl) ?_
 refine zaa rfl (zad) (zaf (zai ?_))
 refine zaZ rfl (fun hl0 => ?_) (fun hl0 => ?_)
 ·
  refine zak (zac (zaa rfl (zad) (zaf (zai (zax (za6 (zaT ?_)))))))
  refine zar [_] ⟨rfl, trivial⟩ ?_
  have hl1 : R.ch.length = 0 := by omega
  rw [if_pos hl1] at hE
  exact ⟨by rw [← hE]; rfl, R, hcr0 (.inr hl1), hNb⟩
 ·
  have hl1 : ¬ R.ch.length = 0 := by omega
  rw [if_neg hl1] at hE
  refine zak (zac (zaa rfl (zab) ?_))
  refine zaa rfl (zbr rfl rfl) ?_
  refine zaa rfl (zad) (zaf (zai ?_))
  refine zaZ rfl (fun hn0 => ?_) (fun hn0 => ?_)
  ·
   refine zak (zac (zaa rfl (zad) (zaf (zai (zax (za6 (zaT ?_)))))))
   refine zar [_] ⟨rfl, trivial⟩ ?_
   rw [if_pos hn0] at hE
   exact ⟨by rw [← hE]; rfl, R, hcr0 (.inl (by omega)), hNb⟩
  ·
   rw [if_neg hn0] at hE
   have hnp2 := hnp hn0
   refine zak (zac (zaa rfl (zab) (zaa rfl (zab) (zaa rfl (zal rfl) (zaa rfl (zaj (off := 5) (by kernel_rfl) rfl) ?_)))))
   refine zaa rfl (zam rfl (Ld.zbb hq (by kernel_rfl) rfl)) ?_
   refine zaa rfl (zbU rfl rfl) ?_
   refine zaa rfl (zad) (zaf (zai ?_))
   refine zaZ rfl (fun hgt => ?_) (fun hgt => ?_)
   ·
    refine zak (zac (zaa rfl (zad) (zaf (zai (zax (za6 (zaT ?_)))))))
    refine zar [_] ⟨rfl, trivial⟩ ?_
    rw [if_pos hgt] at hE
    exact ⟨by rw [← hE]; rfl, R, hcr0 (.inl (by omega)), hNb⟩
   ·
    rw [if_neg hgt] at hE
    refine zau (za2 (zai ?_))
    refine zjy (fun _ : Unit => [(3, .int .i64 nd), (0, .pointer (some ⟨g, 0, none⟩))]) (fun _ w' => ∃ di' rm', di'.length ≤ R.di.length ∧ nd ≤ rm' ∧ rm' ≤ R.sz ∧ ze9 g { R with di := di', rm := rm' } B w w') ?_ ?_
    ·
     refine zak (zac (zaa rfl (zab) (zaa rfl (zab) (zaa rfl (zal rfl) (zaa rfl (zaj (off := 6) (by kernel_rfl) rfl) ?_)))))
     refine zaa rfl (zam rfl (Ld.zbb hq (by kernel_rfl) rfl)) ?_
     refine zaa rfl (zbU rfl rfl) ?_
     refine zaf (zai ?_)
     refine zaZ rfl (fun hrg => ?_) (fun hrg => ?_)
     ·
      refine zac (zaa rfl (zab) ?_)
      refine zat rfl (zao (by kernel_rfl) rfl) (zl3 h ⟨hvs, hvl, hch, hcl, hdi, hbb, hll, hfr, hfm, hrm, hrs, hsm⟩) ?_
      rintro _ w36 ⟨rfl, hb36⟩
      replace hK2 := hK2.kpd hb36.2.k (by first | (simp; done) | (simp; omega))
      refine zaf ?_
      refine zbq ⟨(), ⟨rfl, rfl, rfl⟩, [], R.sz, Nat.zero_le _, by omega, Int.le_refl _, hb36⟩
     ·
      refine zau ?_
      refine zbq ⟨(), ⟨rfl, rfl, rfl⟩, R.di, R.rm, Nat.le_refl _, by omega, hrs, hNb⟩
    ·
     clear hs1 hs2 hs3 hs4 hTr hBe2 hB2 hk2 hq hK2 hNb
     rintro _ f1 w1 ⟨di1, rm1, hd1, hr1, hr2, hN⟩
     obtain ⟨⟨B2, hz2, hB2⟩, hk2⟩ := hN
     obtain ⟨p1, c1, p2, c2, p3, c3, p4, c4, h2, hBe2⟩ := hz2
     have hq := h2.row
     unfold rfV at hq
     try dsimp only at hq
     have hK2 := KpB.refl [g] w1
     have hs1 := fun w' (k : KpB [g] w1 w') => h2.s1.kp k
     have hs2 := fun w' (k : KpB [g] w1 w') => h2.s2.kp k
     have hs3 := fun w' (k : KpB [g] w1 w') => h2.s3.kp k
     have hs4 := fun w' (k : KpB [g] w1 w') => h2.s4.kp k
     have hTr := fun w' (R2 : Rf) (h : ze9 g R2 B2 w1 w') => h.trans hB2 hk2
     try dsimp only at hs1 hs2 hs3 hs4
     clear h2
     refine zak (zac (zaa rfl (zab) (zaa rfl (zab) (zaa rfl (zal rfl) (zaa rfl (zaj (off := 6) (by kernel_rfl) rfl) ?_)))))
     refine zaa rfl (zam rfl (Ld.zbb hq (by kernel_rfl) rfl)) ?_
     refine zaa rfl (zab) ?_
     refine zaa rfl (zeQ rfl rfl (Coup.w64 (by omega))) ?_
     refine zaa rfl (zal rfl) (zaa rfl (zaj (off := 6) (by kernel_rfl) rfl) ?_)
     refine za4 rfl (zaP rfl rfl rfl rfl hq (by kernel_rfl) (by first | (simp only [List.length_replicate]; omega) | (simp only [zaM]; omega) | (simp only [zae, List.length_set]; omega) | simp) (fun w901 hq ho901 => ?_))
     replace hK2 := hK2.only ho901 (by first | (simp; done) | (right; omega))
     refine zaf (zai (zak (zak (zac (zaa rfl (zad) (zaf (zai (zaD ?_))))))))
     refine zbF (α := Nat) 0 (fun i => [(4, .int .i64 (i : Nat)), (0, .pointer (some ⟨g, 0, none⟩))])
       (fun i w' => i ≤ R.ch.length ∧ ∃ (di' cl' : List Int) (rm' : Int), di'.length ≤ R.di.length + i ∧ cl'.length ≤ R.cl.length ∧ 0 ≤ rm' ∧ rm' ≤ R.sz ∧ ze9 g { R with vs := vsS R.vs (R.ch.take i), di := di', cl := cl', rm := rm' } B w w') (fun i => R.ch.length - i)
       ⟨rfl, rfl, rfl⟩ ⟨Nat.zero_le _, di1, R.cl, rm1 - nd, hd1, Nat.le_refl _, by omega, by omega, hTr _ _ (zfu hBe2 hK2 ⟨hq, hs1 _ hK2, hs2 _ hK2, hs3 _ hK2, hs4 _ hK2⟩ (.inl ⟨rfl, rfl⟩) (.inl ⟨rfl, rfl⟩) (.inl ⟨rfl, rfl⟩) (.inl ⟨rfl, rfl⟩))⟩ ?_
     clear hs1 hs2 hs3 hs4 hTr hBe2 hB2 hk2 hq hK2
     rintro i f wr ⟨hi, di', cl', rm', hd1, hc1, h0, hs, hN⟩
     have hvS := zom (R.ch.take i) R.vs
     have hvk := zon (R.ch.take i) R.vs hvs fun c hc => hch c (List.mem_of_mem_take hc)
     have hobt : ∃ vs', vsS R.vs (R.ch.take i) = vs' := ⟨_, rfl⟩
     obtain ⟨vs', hvs'⟩ := hobt
     rw [hvs'] at hN hvS hvk
     have hpvl := zd3 hvk
     obtain ⟨⟨B2, hz2, hB2⟩, hk2⟩ := hN
     obtain ⟨p1, c1, p2, c2, p3, c3, p4, c4, h2, hBe2⟩ := hz2
     have hq := h2.row
     unfold rfV at hq
     try dsimp only at hq
     have hK2 := KpB.refl [g] wr
     have hs1 := fun w' (k : KpB [g] wr w') => h2.s1.kp k
     have hs2 := fun w' (k : KpB [g] wr w') => h2.s2.kp k
     have hs3 := fun w' (k : KpB [g] wr w') => h2.s3.kp k
     have hs4 := fun w' (k : KpB [g] wr w') => h2.s4.kp k
     have hTr := fun w' (R2 : Rf) (h : ze9 g R2 B2 wr w') => h.trans hB2 hk2
     try dsimp only at hs1 hs2 hs3 hs4
     clear h2
     have hglr : g < wr.heap.size := Nat.lt_of_lt_of_le hgl hk2.k.size
     refine zak (zak (zac (zaa rfl (zab) (zaa rfl (zab) (zaa rfl (zal rfl) (zaa rfl (zaj (off := 1) (by kernel_rfl) rfl) ?_))))))
     refine zaa rfl (zam rfl (Ld.zbb hq (by kernel_rfl) rfl)) ?_
     refine zaa rfl (zaA (e := 73) (sz := 513) (by kernel_rfl) rfl rfl) ?_
     refine zaa rfl (zbd rfl rfl) ?_
     refine zaf (zai ?_)
     refine zaZ rfl (fun hlt => ?_) (fun hlt => ?_)
     ·
      refine zau (zai (zak (zaD (zak ?_))))
      have hob : ∃ c, R.ch[i]? = some c := ⟨_, List.getElem?_eq_getElem (by omega)⟩
      obtain ⟨c, hc⟩ := hob
      have hs2w := (hs2 _ hK2).s
      have hobt := hs2w.some (by omega)
      obtain ⟨gp, op, rfl, hgpl⟩ := hobt
      have hobt := hnum c (List.mem_of_getElem? hc)
      obtain ⟨m, hcm, hml2⟩ := hobt
      have hpl := hch c (List.mem_of_getElem? hc)
      have hpb : (bv c.page).length = 512 := by rw [zae]; exact hpl
      have hsn := zpt hc R.vs
      rw [hvs', hcm, Int.toNat_natCast] at hsn
      refine zac (zaa rfl (zab) (zaa rfl (zal rfl) (zaa rfl (zaj (off := 1) (by kernel_rfl) rfl) ?_)))
      refine zaa rfl (zam rfl (Ld.zbb hq (by kernel_rfl) rfl)) ?_
      refine zaa rfl (zab) ?_
      refine zaa rfl (zaQ (e := 73) (sz := 513) (by kernel_rfl) rfl rfl (i) (by omega) (by omega)) ?_
      refine zaa rfl (zaj (off := 0) (by kernel_rfl) rfl) ?_
      refine zaa rfl (zam rfl (zn4 hs2w hch hc)) ?_
      refine zaa rfl (zad) (zaf (zai (zak ?_)))
      have hs1w := (hs1 _ hK2).s
      refine zac (zaa rfl (zab) (zaa rfl (zab) (zaa rfl (zal rfl) (zaa rfl (zaj (off := 0) (by kernel_rfl) rfl) ?_))))
      refine zaa rfl (zam rfl (Ld.zbb hq (by kernel_rfl) rfl)) ?_
      refine zaX rfl (za7 (e := 37) (sz := 512) (bytes := 512) (z := .agg (List.replicate 512 (Value.int .u8 0)).toArray) (by kernel_rfl) rfl (by kernel_rfl) rfl (by decide) rfl (zby wr wr.heap.size 37 512) rfl hs1w (zl1 _) (by unfold maxLen; omega) (by omega) (fun _ => Nat.le_refl _) (fun v68 w68 hv68 hgr68 hfr68 => ?_))
      have hb68 := zdg hgr68
      replace hK2 := hK2.new hb68
      replace hq := hq.new hb68
      rw [List.nil_append, Nat.zero_add] at hv68
      have hos := zpu hv68 (by omega)
      obtain ⟨ga, oa, ca, rfl, hga⟩ := hos
      have hvG : zeV w68 wr.heap.size 37 512 ga oa vs'.length ca (zeH vs') := hv68
      refine zaa rfl (zal rfl) (zaa rfl (zaj (off := 0) (by kernel_rfl) rfl) ?_)
      refine za4 rfl (zaP rfl rfl rfl rfl hq (by kernel_rfl) (by first | (simp only [List.length_replicate]; omega) | (simp only [zaM]; omega) | (simp only [zae, List.length_set]; omega) | simp) (fun w902 hq ho902 => ?_))
      replace hK2 := hK2.only ho902 (by first | (simp; done) | (right; omega))
      replace hvG := hvG.only ho902 (by omega)
      refine zaf (zai (zak ?_))
      have hs2x := (hs2 _ hK2).s
      refine zbg [ga] (by kernel_rfl) ?_
      intro w903 hb903 hS903
      replace hK2 := hK2.new hb903
      replace hq := hq.new hb903
      replace hvG := hvG.new hb903
      replace hs2x := hs2x.new hb903
      have hK2_d903 := hK2
      have hq_d903 := hq
      have hvG_d903 := hvG
      have hs2x_d903 := hs2x
      refine zah 0 (by kernel_rfl) rfl (fun _ _ => zab) ?_
      refine zah 1 (by kernel_rfl) rfl (fun _ _ => zal rfl) ?_
      refine zah 2 (by kernel_rfl) rfl (fun _ _ => zaj (off := 0) (by kernel_rfl) rfl) ?_
      refine zah 3 (by kernel_rfl) rfl (fun w' hS' => zam rfl (Ld.zbb (hq_d903.kq hS') (by kernel_rfl) rfl)) ?_
      refine zah 4 (by kernel_rfl) rfl (fun _ _ => zab) ?_
      refine zah 5 (by kernel_rfl) rfl (fun _ _ => zab) ?_
      refine zah 6 (by kernel_rfl) rfl (fun _ _ => zal rfl) ?_
      refine zah 7 (by kernel_rfl) rfl (fun _ _ => zaj (off := 1) (by kernel_rfl) rfl) ?_
      refine zah 8 (by kernel_rfl) rfl (fun w' hS' => zam rfl (Ld.zbb (hq_d903.kq hS') (by kernel_rfl) rfl)) ?_
      refine zah 9 (by kernel_rfl) rfl (fun _ _ => zab) ?_
      refine zah 10 (by kernel_rfl) rfl (fun _ _ => zaQ (e := 73) (sz := 513) (by kernel_rfl) rfl rfl (i) (by omega) (by omega)) ?_
      refine zah 11 (by kernel_rfl) rfl (fun _ _ => zaj (off := 1) (by kernel_rfl) rfl) ?_
      refine zah 12 (by kernel_rfl) rfl (fun w' hS' => zam rfl (ld_chpg (hs2x_d903.kpd hS' (by first | (simp; done) | (simp; omega) | (simp [*]; done) | exact zaH (Or.inl (by omega)) | exact zaH (Or.inr (by simp)) | exact fun g hm => Nat.le_trans (by omega) (zel hm).1 | (intro b o e; cases e; exact zaH (Or.inl (by omega))) | (intro b hm; have := (hu.lt b (Option.mem_toList.1 hm)).1; omega) | (intro b o e; cases e; intro hm; have := (hu.lt _ (Option.mem_toList.1 hm)).1; omega))) hch hc)) ?_
      refine zah 13 (by kernel_rfl) rfl (fun _ _ => zaQ (e := 37) (sz := 512) (by kernel_rfl) rfl rfl (m) (by omega) (by omega)) ?_
      refine zaS 14 (by kernel_rfl) ?_
      refine zdG rfl rfl (zhh (bv c.page) (m * 512) hvG rfl rfl (by rw [hpb]; kernel_rfl) (by first | (simp only [zae]; omega) | omega) (zaL _) (fun w905 hvG ho905 => ?_))
      have hS904 := hS903.aq ho905
      refine ⟨hS904, ?_⟩
      replace hK2 := hK2.only ho905 (by first | (simp; done) | (right; omega))
      replace hq := hq.only ho905 (by omega)
      replace hs2x := hs2x.only ho905 (by omega)
      rw [zpr hvk (by omega) hpl] at hvG
      refine zaR (by kernel_rfl) ?_
      refine zai (zak (zac (zaa rfl (zab) (zaa rfl (zab) (zaa rfl (zal rfl) (zaa rfl (zaj (off := 3) (by kernel_rfl) rfl) ?_))))))
      refine zaa rfl (zam rfl (Ld.zbb hq (by kernel_rfl) rfl)) ?_
      refine zaa rfl (zab) ?_
      have hKs91 := hK2.k.size
      refine zat rfl (zao (by kernel_rfl) rfl) (zhX cl' p4 c4 c.num w905 (hs4 _ hK2).s (by omega)) ?_
      rintro _ w91 ⟨hcl5, hb91⟩
      replace hK2 := hK2.new hb91
      replace hq := hq.new hb91
      replace hvG := hvG.new hb91
      have hfo := hcl5.form
      obtain ⟨p5, c5, rfl⟩ := hfo
      refine zaa rfl (zal rfl) (zaa rfl (zaj (off := 3) (by kernel_rfl) rfl) ?_)
      refine za4 rfl (zaP rfl rfl rfl rfl hq (by kernel_rfl) (by first | (simp only [List.length_replicate]; omega) | (simp only [zaM]; omega) | (simp only [zae, List.length_set]; omega) | simp) (fun w906 hq ho906 => ?_))
      replace hK2 := hK2.only ho906 (by first | (simp; done) | (right; omega))
      replace hvG := hvG.only ho906 (by omega)
      replace hcl5 := hcl5.only ho906 (by omega)
      refine zaf (zai (zak (zac (zaa rfl (zab) (zaa rfl (zal rfl) (zaa rfl (zaj (off := 2) (by kernel_rfl) rfl) ?_))))))
      refine zaa rfl (zam rfl (Ld.zbb hq (by kernel_rfl) rfl)) ?_
      refine zaa rfl (zab) ?_
      refine zat rfl (zao (by kernel_rfl) rfl) (has82 di' p3 c3 c.num w906 (hs3 _ hK2).s (by omega)) ?_
      rintro _ w99 ⟨⟨b, rfl⟩, hb99⟩
      replace hK2 := hK2.new hb99
      replace hq := hq.new hb99
      replace hvG := hvG.new hb99
      replace hcl5 := hcl5.new hb99
      refine zaa rfl (zcr rfl) ?_
      refine zaf (zai ?_)
      refine zh9 rfl (fun hb => ?_) (fun hb => ?_)
      ·
       refine zac (zaa rfl (zab) (zaa rfl (zab) (zaa rfl (zal rfl) (zaa rfl (zaj (off := 2) (by kernel_rfl) rfl) ?_))))
       refine zaa rfl (zam rfl (Ld.zbb hq (by kernel_rfl) rfl)) ?_
       refine zaa rfl (zab) ?_
       have hKs107 := hK2.k.size
       refine zat rfl (zao (by kernel_rfl) rfl) (zpp di' p3 c3 c.num w99 (hs3 _ hK2).s (by omega) (hs3 _ hK2).k) ?_
       rintro _ w107 ⟨⟨di2, hdl2, hdi2⟩, hb107⟩
       replace hK2 := hK2.new hb107
       replace hq := hq.new hb107
       replace hvG := hvG.new hb107
       replace hcl5 := hcl5.new hb107
       have hfo := hdi2.form
       obtain ⟨p6, c6, rfl⟩ := hfo
       refine zaa rfl (zal rfl) (zaa rfl (zaj (off := 2) (by kernel_rfl) rfl) ?_)
       refine za4 rfl (zaP rfl rfl rfl rfl hq (by kernel_rfl) (by first | (simp only [List.length_replicate]; omega) | (simp only [zaM]; omega) | (simp only [zae, List.length_set]; omega) | simp) (fun w907 hq ho907 => ?_))
       replace hK2 := hK2.only ho907 (by first | (simp; done) | (right; omega))
       replace hvG := hvG.only ho907 (by omega)
       replace hcl5 := hcl5.only ho907 (by omega)
       replace hdi2 := hdi2.only ho907 (by omega)
       refine zaf (za2 (zai (zac (zaa rfl (zab) ?_))))
       refine zaa rfl (zaV rfl rfl (Coup.w64 (by omega))) ?_
       refine zaa rfl (zad) (zaf ?_)
       have hob2 : ∃ v2, vs'.set m c.page = v2 := ⟨_, rfl⟩
       obtain ⟨v2, hv2⟩ := hob2
       have hl2 : vs'.length = v2.length := by rw [← hv2, List.length_set]
       rw [hv2] at hvG hsn
       rw [hl2] at hvG hq
       have hwl := zjl cl' c.num
       refine zbq ⟨i + 1, by omega, ⟨by go_num, rfl, rfl⟩, by omega, di2, woI cl' c.num, rm', by omega, by omega, h0, hs, by rw [hsn]; exact hTr _ _ (zfu hBe2 hK2 ⟨hq, Pc.zgQ hvG (by omega), hs2 _ hK2, Pc.zgQ hdi2 (by omega), Pc.zgQ hcl5 (by omega)⟩ (.inr fun b hb => zft hvG b hb) (.inl ⟨rfl, rfl⟩) (.inr fun b hb => Nat.le_trans hKs107 (zft hdi2 b hb)) (.inr fun b hb => Nat.le_trans hKs91 (zft hcl5 b hb)))⟩
      ·
       refine zau (za2 (zai (zac (zaa rfl (zab) ?_))))
       refine zaa rfl (zaV rfl rfl (Coup.w64 (by omega))) ?_
       refine zaa rfl (zad) (zaf ?_)
       have hob2 : ∃ v2, vs'.set m c.page = v2 := ⟨_, rfl⟩
       obtain ⟨v2, hv2⟩ := hob2
       have hl2 : vs'.length = v2.length := by rw [← hv2, List.length_set]
       rw [hv2] at hvG hsn
       rw [hl2] at hvG hq
       have hwl := zjl cl' c.num
       refine zbq ⟨i + 1, by omega, ⟨by go_num, rfl, rfl⟩, by omega, di', woI cl' c.num, rm', by omega, by omega, h0, hs, by rw [hsn]; exact hTr _ _ (zfu hBe2 hK2 ⟨hq, Pc.zgQ hvG (by omega), hs2 _ hK2, hs3 _ hK2, Pc.zgQ hcl5 (by omega)⟩ (.inr fun b hb => zft hvG b hb) (.inl ⟨rfl, rfl⟩) (.inl ⟨rfl, rfl⟩) (.inr fun b hb => Nat.le_trans hKs91 (zft hcl5 b hb)))⟩
     ·
      have hi2 : i = R.ch.length := by omega
      subst hi2
      rw [List.take_length] at hvs'
      subst hvs'
      refine zbp (zbW (zb9 (zbw (zai (zak (zac (zaa rfl (zab) (zaa rfl (zal rfl) (zaa rfl (zaj (off := 1) (by kernel_rfl) rfl) ?_)))))))))
      refine za4 rfl (zaP rfl rfl rfl rfl hq (by kernel_rfl) (by first | (simp only [List.length_replicate]; omega) | (simp only [zaM]; omega) | (simp only [zae, List.length_set]; omega) | simp) (fun w908 hq ho908 => ?_))
      replace hK2 := hK2.only ho908 (by first | (simp; done) | (right; omega))
      refine zaf (zai (zak (zac (zaa rfl (zad) (zaf (zai (zax ?_)))))))
      refine zar [_] ⟨rfl, trivial⟩ ?_
      have hnil : za9 w908 none 0 513 [] := ⟨rfl, Nat.zero_le _, fun h => absurd h (by simp)⟩
      exact ⟨by rw [← hE]; rfl, _, hcr di' cl' rm' hd1 hc1 h0 hs hE.symm, hTr _ _ (zfu hBe2 hK2 ⟨hq, hs1 _ hK2, ⟨hnil, by simp [zch], Nat.zero_le _⟩, hs3 _ hK2, hs4 _ hK2⟩ (.inl ⟨rfl, rfl⟩) (.inr fun b hb => by simp [zch] at hb) (.inl ⟨rfl, rfl⟩) (.inl ⟨rfl, rfl⟩))⟩
end Go.Proofs.YtielfpkjoidomaaGreat
