import Derived.Test.YtielfpkjoidomaaGreatM5
import Derived.Test.YtielfpkjoidomaaGreatM2
namespace Go.Proofs.YtielfpkjoidomaaGreat
open Go Go.RowKit Coup
def inP (P : Pl) (n : Int) : Prop := 0 ≤ n ∧ n < (P.n : Int)
instance (P : Pl) (n : Int) : Decidable (inP P n) := by unfold inP; exact inferInstance
def rdE (P : Pl) (n : Int) : Int := if inP P n then 0 else 2
def gX (P : Pl) (V : Nat → Pg) (n : Int) : Pg := if inP P n then (P.ch n.toNat).getD (V n.toNat) else zeroP
def gP (P : Pl) (n : Int) : Pl := if inP P n then getP P n.toNat else P
def pP (P : Pl) (n : Int) (X : Pg) : Pl := if inP P n then putP P n.toNat X else P
theorem zeroP_bv : bv zeroP = zP := by rw [zeroP, bv, List.map_replicate]; rfl
theorem rd_is {P : Pl} (h : P.dead = false) (n : Int) : readyE P n = rdE P n := by
  unfold readyE rdE inP
  rw [h, if_neg (by simp)]
namespace PlI
variable {P : Pl} {V : Nat → Pg} {k : Nat}
theorem gP (h : PlI P V k) (n : Int) : PlI (gP P n) V k := by
  unfold Go.Proofs.YtielfpkjoidomaaGreat.gP
  split
  · rename_i hn; exact h.getP (by unfold inP at hn; omega)
  · exact h
theorem pP (h : PlI P V k) (n : Int) {X : Pg} (hX : X.length = 512) : PlI (pP P n X) V k := by
  unfold Go.Proofs.YtielfpkjoidomaaGreat.pP
  split
  · rename_i hn; exact h.putP (by unfold inP at hn; omega) hX
  · exact h
end PlI
section
variable {Y : World → List Nat → Prop} [Thing Y] {q lo : Nat} {L : List Nat} {P : Pl} {V : Nat → Pg} {k : Nat} {w : World}
omit [Thing Y] in
theorem z_n (h : Two (PZ q P) Y lo L w) : P.n ≤ 2048 := by
  obtain ⟨g, x, mc, md, cv, hP⟩ := pl_open h
  exact hP.nle.1
theorem zGet (h : Two (PZ q P) Y lo L w) (hi : PlI P V k) (n : Int) : Calls Tryz.prog 17 [.pointer (some ⟨q, 0, none⟩), .int .i64 n].toArray w (Ret fun v w' => v = .tuple #[.agg (bv (gX P V n)).toArray, .int .i64 (rdE P n)] ∧ Two (PZ q (gP P n)) Y lo L w' ∧ LoL lo L w w') := by
  by_cases hn : inP P n
  · have hn2 := hn
    unfold inP at hn2
    obtain ⟨m, rfl⟩ : ∃ m : Nat, n = m := ⟨n.toNat, by omega⟩
    unfold gX rdE gP
    rw [if_pos hn, if_pos hn, if_pos hn, Int.toNat_natCast, ← hi.getX (by omega)]
    exact pl_lift h fun g x mc md cv hP => getYes hP hi.ok hi.de m (by omega)
  · unfold gX gP
    rw [if_neg hn, if_neg hn, zeroP_bv]
    obtain ⟨g, x, mc, md, cv, hP⟩ := pl_open h
    have hr := rd_is hi.de n
    have hne : readyE P n ≠ 0 := by rw [hr]; unfold rdE; rw [if_neg hn]; omega
    have hg := getNo hP hi.ok.lg.szm n hne
    rw [hr] at hg
    exact hg.to fun v w' ⟨h1, h2⟩ => ⟨h1, h.new h2, LoL.of_below h2⟩
theorem zPut (h : Two (PZ q P) Y lo L w) (hi : PlI P V k) (n : Int) {X : Pg} (hX : X.length = 512) : Calls Tryz.prog 12 [.pointer (some ⟨q, 0, none⟩), .int .i64 n, .agg (bv X).toArray].toArray w (Ret fun v w' => v = .int .i64 (rdE P n) ∧ Two (PZ q (pP P n X)) Y lo L w' ∧ LoL lo L w w') := by
  by_cases hn : inP P n
  · have hn2 := hn
    unfold inP at hn2
    obtain ⟨m, rfl⟩ : ∃ m : Nat, n = m := ⟨n.toNat, by omega⟩
    unfold rdE pP
    rw [if_pos hn, if_pos hn, Int.toNat_natCast]
    exact pl_lift h fun g x mc md cv hP => putYes hP hi.ok hi.de m (by omega) X hX
  · unfold pP
    rw [if_neg hn]
    obtain ⟨g, x, mc, md, cv, hP⟩ := pl_open h
    have hr := rd_is hi.de n
    have hne : readyE P n ≠ 0 := by rw [hr]; unfold rdE; rw [if_neg hn]; omega
    have hg := putNo hP hi.ok.lg.szm n X hne
    rw [hr] at hg
    exact hg.to fun v w' ⟨h1, h2⟩ => ⟨h1, h.new h2, LoL.of_below h2⟩
theorem zCommit (h : Two (PZ q P) Y lo L w) (hi : PlI P V k) : Calls Tryz.prog 16 [.pointer (some ⟨q, 0, none⟩)].toArray w (Ret fun v w' => v = .int .i64 (commitP P).1 ∧ Two (PZ q (commitP P).2) Y lo L w' ∧ LoL lo L w w') :=
  pl_lift h fun g x mc md cv hP => commitYes hP hi.ok hi.de (short_of hi.al.short (by omega))
theorem zAbort (h : Two (PZ q P) Y lo L w) (hi : PlI P V k) : Calls Tryz.prog 14 [.pointer (some ⟨q, 0, none⟩)].toArray w (Ret fun v w' => v = .int .i64 0 ∧ Two (PZ q { P with ch := noP }) Y lo L w' ∧ LoL lo L w w') :=
  pl_lift h fun g x mc md cv hP => (abortP hP hi.ok).to fun v w' ⟨h1, h2, h3⟩ => by
    rw [if_neg (by rw [hi.de]; simp)] at h1 h2
    exact ⟨h1, ⟨cv, h2⟩, h3⟩
theorem zCheck (h : Two (PZ q P) Y lo L w) (hi : PlI P V k) : Calls Tryz.prog 19 [.pointer (some ⟨q, 0, none⟩)].toArray w (Ret fun v w' => v = .int .i64 (checkR P).1 ∧ Two (PZ q (checkR P).2) Y lo L w' ∧ LoL lo L w w') :=
  pl_lift h fun g x mc md cv hP => (checkP hP hi.ok hi.de (short_of hi.al.short (by omega))).to fun v w' ⟨h1, h2, h3⟩ => ⟨h1, ⟨cv, h2⟩, h3⟩
theorem zChanged (h : Two (PZ q P) Y lo L w) : Calls Tryz.prog 15 [.pointer (some ⟨q, 0, none⟩)].toArray w (Ret fun v w' => NewI w (keysP P.ch P.n) v w' ∧ Below w.heap.size w w') := by
  obtain ⟨g, x, mc, md, cv, hP⟩ := pl_open h
  exact changedP hP
theorem zDirty (h : Two (PZ q P) Y lo L w) : Calls Tryz.prog 21 [.pointer (some ⟨q, 0, none⟩)].toArray w (Ret fun v w' => NewI w (keysP P.di P.n) v w' ∧ Below w.heap.size w w') := by
  obtain ⟨g, x, mc, md, cv, hP⟩ := pl_open h
  exact dirtyP hP
omit [Thing Y] in
theorem zClean (h : Two (PZ q P) Y lo L w) (hi : PlI P V k) : Calls Tryz.prog 23 [.pointer (some ⟨q, 0, none⟩)].toArray w (Ret fun v w' => NewI w (numsP P.cl) v w' ∧ Below w.heap.size w w') := by
  obtain ⟨g, x, mc, md, cv, hP⟩ := pl_open h
  exact cleanP hP hi.ok.cl (Nat.le_trans hi.ok.cll (Nat.le_trans hi.ok.frm (by omega)))
theorem zRoom (h : Two (PZ q P) Y lo L w) (hi : PlI P V k) : Calls Tryz.prog 22 [.pointer (some ⟨q, 0, none⟩)].toArray w (Ret fun v w' => v = .int .i64 ((P.G.size - P.G.at_ : Nat) : Int) ∧ Below w.heap.size w w') := by
  obtain ⟨g, x, mc, md, cv, hP⟩ := pl_open h
  exact roomP hP hi.ok.lg
end
def commitV (P : Pl) (V : Nat → Pg) : Nat → Pg := if (commitP P).1 = 0 then viewC P V else V
theorem PlI.check {P : Pl} {V : Nat → Pg} {k : Nat} (h : PlI P V k) (hk : k ≤ 1000000) : PlI (checkR P).2 V (k + 1) ∧ (checkR P).2.n = P.n ∧ (checkR P).2.fr = P.fr := by
  unfold checkR
  split
  · obtain ⟨s1, s2, s3, s4, s5, s6, s7, s8⟩ := h.settle hk
    have e : keepR (settleR P).1 (settleR P).2 = (settleR P).2 := by
      unfold keepR
      rw [s1, s2.de]
      have := s2.de
      show ({ (settleR P).2 with dead := false } : Pl) = _
      rw [← this]
    dsimp only
    rw [e]
    exact ⟨s2, s6, s7⟩
  · exact ⟨h.up (by omega), rfl, rfl⟩
theorem view_none {P : Pl} {V : Nat → Pg} (h : (recP P).length = 0) : viewC P V = V := by
  funext n
  unfold viewC
  split
  · rename_i hn
    cases hc : P.ch n with
    | none => rfl
    | some x =>
      have hm : (⟨(n : Int), x⟩ : Ch) ∈ recP P := List.mem_map.2 ⟨(n, x), prs_in hc (Nat.zero_le _) (by omega), rfl⟩
      rw [List.eq_nil_of_length_eq_zero h] at hm
      cases hm
  · rfl
theorem PlI.commit {P : Pl} {V : Nat → Pg} {k : Nat} (h : PlI P V k) (hk : k ≤ 900000) (hn : P.n ≤ 2048) : PlI (commitP P).2 (commitV P V) (k + 1) ∧ (commitP P).2.n = P.n ∧ (commitP P).2.fr = P.fr ∧
    ((recP P).length ≤ 60 → needW ((recP P).length : Int) ≤ (P.G.size : Int) → (commitP P).1 = 0) ∧ ((commitP P).1 = 0 → 0 < (recP P).length → (commitP P).2.ch = noP) := by
  unfold commitV
  by_cases h0 : (recP P).length = 0
  · have e : commitP P = (0, P) := by unfold commitP; rw [if_pos h0]
    rw [e, if_pos rfl, view_none h0]
    exact ⟨h.up (by omega), rfl, rfl, fun _ _ => rfl, fun _ h1 => by omega⟩
  by_cases h60 : 60 < (recP P).length
  · have e : commitP P = (3, P) := by unfold commitP; rw [if_neg h0, if_pos h60]
    rw [e, if_neg (by simp)]
    exact ⟨h.up (by omega), rfl, rfl, fun h1 _ => by omega, fun h1 => by simp at h1⟩
  by_cases hsz : (P.G.size : Int) < needW ((recP P).length : Int)
  · have e : commitP P = (8, P) := by unfold commitP; rw [if_neg h0, if_neg h60, if_pos hsz]
    rw [e, if_neg (by simp)]
    exact ⟨h.up (by omega), rfl, rfl, fun _ h1 => by omega, fun h1 => by simp at h1⟩
  have hroom : (roomR P).1 = 0 ∧ PlI (roomR P).2 V (k + 1) ∧ recP (roomR P).2 = recP P ∧ needW ((recP P).length : Int) ≤ (((roomR P).2.G.size - (roomR P).2.G.at_ : Nat) : Int) ∧ (roomR P).2.ch = P.ch ∧ (roomR P).2.n = P.n ∧ (roomR P).2.fr = P.fr := by
    unfold roomR
    split
    · obtain ⟨s1, s2, s3, s4, s5, s6, s7, s8⟩ := h.settle (by omega)
      refine ⟨s1, s2, by unfold recP; rw [s5, s6], ?_, s5, s6, s7⟩
      rw [s4]
      show _ ≤ ((P.G.size - 0 : Nat) : Int)
      omega
    · rename_i hr
      exact ⟨rfl, h.up (by omega), rfl, Int.not_lt.1 hr, rfl, rfl, rfl⟩
  obtain ⟨r1, r2, r3, r4, r5, r6, r7⟩ := hroom
  have hck := commit_keep r2 (by omega) (by rw [r6]; exact hn) (by rw [r3]; exact h0) (by rw [r3]; exact h60) (by rw [r3]; exact r4)
  rw [r3] at hck
  obtain ⟨c1, c2, c3, c4, c5, c6⟩ := hck
  have e : commitP P = (0, { doneP (putC (roomR P).2 (recP P)) (recP P) with ch := noP }) := by
    unfold commitP
    rw [if_neg h0, if_neg h60, if_neg hsz, if_pos r1, if_pos c1]
  have ev : viewC (roomR P).2 V = viewC P V := by unfold viewC; rw [r5, r6]
  rw [e, if_pos rfl, ← ev]
  obtain ⟨d1, d2, d3, d4, d5, d6, d7, d8⟩ := doneP_same (recP P) (putC (roomR P).2 (recP P))
  refine ⟨c2, ?_, ?_, fun _ _ => rfl, fun _ _ => rfl⟩
  · show (doneP _ _).n = P.n
    rw [d6, c6, r6]
  · show (doneP _ _).fr = P.fr
    rw [d3]; exact r7
structure SameF (P Q : Pl) : Prop where
  D : Q.D = P.D
  G : Q.G = P.G
  ch : Q.ch = P.ch
  di : Q.di = P.di
  de : Q.dead = P.dead
namespace SameF
variable {P Q : Pl}
theorem n (h : SameF P Q) : Q.n = P.n := by unfold Pl.n; rw [h.D, h.G]
theorem inP (h : SameF P Q) (m : Int) : inP Q m ↔ inP P m := by unfold Go.Proofs.YtielfpkjoidomaaGreat.inP; rw [h.n]
theorem rdE (h : SameF P Q) (m : Int) : rdE Q m = rdE P m := by
  unfold Go.Proofs.YtielfpkjoidomaaGreat.rdE
  by_cases hm : Go.Proofs.YtielfpkjoidomaaGreat.inP P m
  · rw [if_pos hm, if_pos ((h.inP m).2 hm)]
  · rw [if_neg hm, if_neg fun hc => hm ((h.inP m).1 hc)]
theorem gX (h : SameF P Q) (V : Nat → Pg) (m : Int) : gX Q V m = gX P V m := by
  unfold Go.Proofs.YtielfpkjoidomaaGreat.gX
  by_cases hm : Go.Proofs.YtielfpkjoidomaaGreat.inP P m
  · rw [if_pos hm, if_pos ((h.inP m).2 hm), h.ch]
  · rw [if_neg hm, if_neg fun hc => hm ((h.inP m).1 hc)]
theorem ask (P : Pl) (m : Nat) : SameF P (askP P m) := by
  obtain ⟨h1, h2, h3, h4, h5, h6, h7⟩ := askP_same P m
  exact ⟨h1, h2, h4, h5, h6⟩
theorem symm (h : SameF P Q) : SameF Q P := ⟨h.D.symm, h.G.symm, h.ch.symm, h.di.symm, h.de.symm⟩
theorem trans {R : Pl} (h : SameF P Q) (h2 : SameF Q R) : SameF P R := ⟨h2.D.trans h.D, h2.G.trans h.G, h2.ch.trans h.ch, h2.di.trans h.di, h2.de.trans h.de⟩
theorem get (P : Pl) (m : Int) : SameF P (gP P m) := by
  unfold Go.Proofs.YtielfpkjoidomaaGreat.gP getP
  split
  · split
    · exact ⟨rfl, rfl, rfl, rfl, rfl⟩
    · exact ask P _
  · exact ⟨rfl, rfl, rfl, rfl, rfl⟩
theorem gP (h : SameF P Q) (m : Int) : SameF (gP P m) (gP Q m) := (get P m).symm.trans (h.trans (get Q m))
theorem setCh (h : SameF P Q) (c : PgM) : SameF { P with ch := c } { Q with ch := c } := ⟨h.D, h.G, rfl, h.di, h.de⟩
theorem pP (h : SameF P Q) {V : Nat → Pg} {k : Nat} (hP : PlI P V k) (hQ : PlI Q V k) (m : Int) (X : Pg) : SameF (pP P m X) (pP Q m X) := by
  unfold Go.Proofs.YtielfpkjoidomaaGreat.pP
  by_cases hm : Go.Proofs.YtielfpkjoidomaaGreat.inP P m
  · rw [if_pos hm, if_pos ((h.inP m).2 hm)]
    unfold Go.Proofs.YtielfpkjoidomaaGreat.inP at hm
    have hn := h.n
    unfold putP
    rw [hP.ask (by omega), hQ.ask (by omega), h.ch]
    exact ((ask P _).symm.trans (h.trans (ask Q _))).setCh _
  · rw [if_neg hm, if_neg fun hc => hm ((h.inP m).1 hc)]; exact h
theorem settle (h : SameF P Q) : (settleR Q).1 = (settleR P).1 ∧ SameF (settleR P).2 (settleR Q).2 := by
  have hs : settleD Q = settleD P := by unfold settleD; rw [h.G, h.D, h.di, h.n]
  unfold settleR
  rw [hs, h.G]
  split
  · split
    · exact ⟨rfl, rfl, rfl, h.ch, by dsimp only; rw [h.di], h.de⟩
    · exact ⟨rfl, rfl, rfl, h.ch, h.di, h.de⟩
  · exact ⟨rfl, rfl, rfl, h.ch, h.di, h.de⟩
theorem keep (h : SameF P Q) (e : Int) : SameF (keepR e P) (keepR e Q) := ⟨h.D, h.G, h.ch, h.di, by unfold keepR; dsimp only; rw [h.de]⟩
theorem check (h : SameF P Q) : (checkR Q).1 = (checkR P).1 ∧ SameF (checkR P).2 (checkR Q).2 := by
  obtain ⟨s1, s2⟩ := h.settle
  unfold checkR
  rw [h.ch, h.n]
  split
  · rw [s1]; exact ⟨rfl, s2.keep _⟩
  · exact ⟨rfl, h⟩
theorem done : ∀ (R : Rec) {P Q : Pl}, SameF P Q → SameF (doneP P R) (doneP Q R)
  | [], P, Q, h => h
  | c :: R, P, Q, h => done R (P := { P with di := updP P.di c.num.toNat (some c.page), cl := without P.cl c.num }) (Q := { Q with di := updP Q.di c.num.toNat (some c.page), cl := without Q.cl c.num }) ⟨h.D, h.G, h.ch, by dsimp only; rw [h.di], h.de⟩
theorem rec_ (h : SameF P Q) : recP Q = recP P := by unfold recP; rw [h.ch, h.n]
theorem putC (h : SameF P Q) (R : Rec) : SameF (putC P R) (putC Q R) := by
  unfold Go.Proofs.YtielfpkjoidomaaGreat.putC
  rw [h.D, h.G]
  exact ⟨rfl, rfl, h.ch, h.di, h.de⟩
theorem commit (h : SameF P Q) : (commitP Q).1 = (commitP P).1 ∧ SameF (commitP P).2 (commitP Q).2 := by
  have hr : (roomR Q).1 = (roomR P).1 ∧ SameF (roomR P).2 (roomR Q).2 := by
    unfold roomR
    rw [h.rec_, h.G]
    split
    · exact h.settle
    · exact ⟨rfl, h⟩
  unfold commitP
  rw [h.rec_, h.G, hr.1, hr.2.D, hr.2.G]
  split
  · exact ⟨rfl, h⟩
  · split
    · exact ⟨rfl, h⟩
    · split
      · exact ⟨rfl, h⟩
      · split
        · split
          · exact ⟨rfl, (done (recP P) (hr.2.putC (recP P))).setCh noP⟩
          · exact ⟨rfl, (hr.2.putC (recP P)).keep _⟩
        · exact ⟨rfl, hr.2.keep _⟩
theorem commitV (h : SameF P Q) (V : Nat → Pg) : commitV Q V = commitV P V := by
  unfold Go.Proofs.YtielfpkjoidomaaGreat.commitV viewC
  rw [h.commit.1, h.n, h.ch]
end SameF
end Go.Proofs.YtielfpkjoidomaaGreat
namespace Go.Proofs.YtielfpkjoidomaaGreat
open Go Go.RowKit Coup Go.ChangeShapes Go.WideShapes Go.Deep
structure PStep where
  kind : Int
  n : Int
  many : Int
  b : List UInt8
def PsQ (W : World) (a : PStep) (cs : List Value) : Prop := ∃ q cp, cs = [.int .i64 a.kind, .int .i64 a.n, .int .i64 a.many, .slice q a.b.length cp] ∧ SlAt W q a.b.length 1 (bv a.b) ∧ wf64 a.kind ∧ wf64 a.n ∧ wf64 a.many
theorem psQ_opn {H : Type} {enc : TypeId × Value → H} {W : World} {base : Nat} {spare : Nat → Bool} {held : Bool} : Opn enc Tryz.prog W base spare held 33 (PsQ W) := fun fuel cs x h => by
  obtain ⟨hl, m, hf⟩ := opn_flds Tryz.underlying33 h
  have hl2 : cs.length = 4 := hl.trans (by kernel_rfl)
  obtain ⟨_, h0⟩ := fld hf 0 0 1 rfl rfl (by kernel_rfl)
  obtain ⟨_, h1⟩ := fld hf 1 1 1 rfl rfl (by kernel_rfl)
  obtain ⟨_, h2⟩ := fld hf 2 2 1 rfl rfl (by kernel_rfl)
  obtain ⟨_, h3⟩ := fld hf 3 3 1 rfl rfl (by kernel_rfl)
  obtain ⟨a, e0, w0⟩ := opn_int (by kernel_rfl) _ _ _ h0
  obtain ⟨b, e1, w1⟩ := opn_int (by kernel_rfl) _ _ _ h1
  obtain ⟨c, e2, w2⟩ := opn_int (by kernel_rfl) _ _ _ h2
  obtain ⟨R, q, cp, e3, hcp, hR⟩ := opn_slice (e := 5) (n := 1) (by kernel_rfl) (by kernel_rfl) (opn_int (k := .u8) (by kernel_rfl)) _ _ _ h3
  obtain ⟨l, hll, hl4⟩ := u8_of_els hR
  refine ⟨⟨a, b, c, l⟩, q, cp, ?_, by rw [hll]; exact hl4, i64_of_wf w0, i64_of_wf w1, i64_of_wf w2⟩
  have k0 := cut_at cs 0 1
  have k1 := cut_at cs 1 1
  have k2 := cut_at cs 2 1
  have k3 := cut_at cs 3 1
  rw [e0] at k0
  rw [e1] at k1
  rw [e2] at k2
  rw [e3, List.drop_of_length_le (l := cs) (i := 3 + 1) (by omega), List.append_nil] at k3
  rw [k3] at k2
  rw [k2] at k1
  rw [k1] at k0
  rw [List.drop_zero] at k0
  rw [hll]
  exact k0
theorem openRowsP {H : Type} {enc : TypeId × Value → H} {W : World} {a : Option Addr} {len cap : Nat} {d : DataW H} {p : List MemPlace} (h : DataW.Trod enc Tryz.prog W 0 (fun _ => true) true 22 (.slice a len cap) d p) : (∃ R, ElsAt (PsQ W) W 4 a len R) ∧ len ≤ cap :=
  opn_arg (by kernel_rfl) (by kernel_rfl) psQ_opn h
theorem PsQ.below {w w' : World} {a : PStep} {cs : List Value} (h : PsQ w a cs) (hb : Below w.heap.size w w') : PsQ w' a cs := by
  obtain ⟨q, cp, h1, h2, h3⟩ := h
  exact ⟨q, cp, h1, h2.below hb (Nat.le_refl _), h3⟩
def fewP (R : List PStep) (most : Nat) : Prop := R.length ≤ most ∧ ∀ a ∈ R, a.b.length ≤ 600
set_option maxRecDepth 20000 in
theorem few06 (p : Option Addr) (n cp most : Nat) (R : List PStep) (w : World) (h : ElsAt (PsQ w) w 4 p n R) (hm : most ≤ 1000) :
    Calls Tryz.prog 9 [.slice p n cp, .int .i64 (most : Int)].toArray w (Ret fun v w' => ∃ B : Bool, v = .bool B ∧ (B = true → fewP R most) ∧ w = w') := by
  have hmax := h.max
  have hml : maxLen = 9223372036854775807 := by decide
  have hRl := h.1
  refine calls_W (fn := Tryz.f9) (rs := [.tmp 4]) (n := 28) Tryz.func9 rfl rfl Tryz.ntmps9 (by kernel_rfl) rfl ?_
  refine W_seq ?_
  refine W_region ?_
  refine WR_val rfl (rn_assign) ?_
  refine WR_nil ?_
  refine thenN ?_
  refine W_seq ?_
  refine W_seq ?_
  refine W_region ?_
  refine WR_val rfl (rn_assign) ?_
  refine WR_nil ?_
  refine thenN ?_
  refine W_block ?_
  refine W_loop (α := Nat) 0 (fun i => [(5, .int .i64 (i : Nat)), (0, .slice p n cp), (1, .int .i64 (most : Int))]) (fun i w' => i ≤ n ∧ (∀ (j : Nat) (a : PStep), j < i → R[j]? = some a → a.b.length ≤ 600) ∧ w = w') (fun i => n - i)
    ⟨rfl, rfl, rfl, rfl⟩ ⟨Nat.zero_le _, (by intro j x hj; exact absurd hj (Nat.not_lt_zero _)), rfl⟩ ?_
  rintro i f wr ⟨hi, hall, rfl⟩
  refine W_seq ?_
  refine W_seq ?_
  refine W_region ?_
  refine WR_val rfl (rn_move) ?_
  refine WR_val rfl (rn_move) ?_
  refine WR_val rfl (rn_lenSl (e := 33) (sz := 4) (by kernel_rfl) rfl rfl) ?_
  refine WR_val rfl (rn_lss rfl rfl) ?_
  refine WR_val rfl (rn_move) ?_
  refine WR_part 10 rfl (fun hlt => ?_) (fun hlt => ?_)
  ·
    refine WR_yes rfl ?_
    refine WR_val rfl (rn_move) ?_
    refine WR_yes rfl ?_
    refine WR_val rfl (rn_move) ?_
    refine WR_yes rfl ?_
    refine WR_val rfl (rn_leq rfl rfl) ?_
    refine WR_val rfl (rn_pick_t rfl) ?_
    refine WR_nil ?_
    refine thenN ?_
    refine W_ifp rfl (fun hle => ?_) (fun hle => ?_)
    ·
      refine W_skip ?_
      refine thenN ?_
      refine W_seq ?_
      refine W_block ?_
      refine W_seq ?_
      have hobt := h.get (i := i) (by omega)
      obtain ⟨a, hx⟩ := hobt
      have hobt := h.some (by omega)
      obtain ⟨gp, op, rfl, _⟩ := hobt
      have hle := h.el hx
      obtain ⟨cs, ⟨q, c1, rfl, hq1, _⟩, hcl, hce⟩ := hle
      refine W_region ?_
      refine WR_val rfl (rn_move) ?_
      refine WR_val rfl (rn_move) ?_
      refine WR_val rfl (rn_indexSl (e := 33) (sz := 4) (by kernel_rfl) rfl rfl (i) (by omega) (by omega)) ?_
      refine WR_val rfl (rn_fieldAddr (off := 3) (by kernel_rfl) rfl) ?_
      refine WR_val rfl (rn_load rfl (Ld.one (by kernel_rfl) (hce 3 _ rfl))) ?_
      refine WR_val rfl (rn_lenSl (e := 5) (sz := 1) (by kernel_rfl) rfl rfl) ?_
      refine WR_val rfl (rn_gtr rfl rfl) ?_
      refine WR_nil ?_
      refine thenN ?_
      refine W_ifp rfl (fun h600 => ?_) (fun h600 => ?_)
      ·
        refine W_seq ?_
        refine W_region ?_
        refine WR_val rfl (rn_assign) ?_
        refine WR_nil ?_
        refine thenN ?_
        refine W_ret ?_
        refine blockR ?_
        refine thenR ?_
        refine loopR ?_
        refine blockR ?_
        refine thenR ?_
        refine ret_ret [_] ⟨rfl, trivial⟩ ?_
        exact ⟨false, rfl, by simp, rfl⟩
      ·
        refine W_skip ?_
        refine blockN ?_
        refine thenN ?_
        refine W_region ?_
        refine WR_val rfl (rn_move) ?_
        refine WR_val rfl (rn_add rfl rfl (Coup.w64 (by omega))) ?_
        refine WR_val rfl (rn_assign) ?_
        refine WR_nil ?_
        refine loopN ⟨i + 1, by omega, ⟨by go_num, rfl, rfl, rfl⟩, by omega, fun j y hj hy => ?_, rfl⟩
        by_cases hjk : j < i
        · exact hall j y hjk hy
        · obtain rfl : j = i := by omega
          rw [hx] at hy; cases hy; omega
    ·
      have hno : most < i := by omega
      refine W_exit ?_
      refine thenX ?_
      refine loopX ?_
      refine blockX ?_
      refine thenN ?_
      refine W_seq ?_
      refine W_region ?_
      refine WR_val rfl (rn_move) ?_
      refine WR_val rfl (rn_lenSl (e := 33) (sz := 4) (by kernel_rfl) rfl rfl) ?_
      refine WR_val rfl (rn_move) ?_
      refine WR_val rfl (rn_leq rfl rfl) ?_
      refine WR_val rfl (rn_assign) ?_
      refine WR_nil ?_
      refine thenN ?_
      refine W_ret ?_
      refine ret_ret [_] ⟨rfl, trivial⟩ ?_
      exact ⟨false, by show Value.bool (decide _) = _; rw [decide_eq_false (by omega)], by simp, rfl⟩
  ·
    have hin : i = n := by omega
    subst hin
    refine WR_no rfl rfl ?_
    refine WR_no rfl rfl ?_
    refine WR_no rfl rfl ?_
    refine WR_val rfl (rn_pick_f rfl) ?_
    refine WR_nil ?_
    refine thenN ?_
    refine W_fb rfl (rfl) ?_
    refine W_exit ?_
    refine thenX ?_
    refine loopX ?_
    refine blockX ?_
    refine thenN ?_
    refine W_seq ?_
    refine W_region ?_
    refine WR_val rfl (rn_move) ?_
    refine WR_val rfl (rn_lenSl (e := 33) (sz := 4) (by kernel_rfl) rfl rfl) ?_
    refine WR_val rfl (rn_move) ?_
    refine WR_val rfl (rn_leq rfl rfl) ?_
    refine WR_val rfl (rn_assign) ?_
    refine WR_nil ?_
    refine thenN ?_
    refine W_ret ?_
    refine ret_ret [_] ⟨rfl, trivial⟩ ?_
    refine ⟨decide (R.length ≤ most), ?_, fun hd => ⟨of_decide_eq_true hd, fun a ha => ?_⟩, rfl⟩
    · show Value.bool (decide _) = Value.bool (decide _)
      congr 1
      rw [decide_eq_decide]
      rw [hRl]
      omega
    · obtain ⟨j, hj⟩ := List.getElem?_of_mem ha
      exact hall j a (by have := (List.getElem?_eq_some_iff.1 hj).1; omega) hj
set_option maxRecDepth 20000 in
theorem fits06 (a b : Int) (w : World) : Calls Tryz.prog 7 [.int .i64 a, .int .i64 b].toArray w (Ret fun v w' => v = .bool (decide ((4 ≤ a ∧ a ≤ 80) ∧ 4 ≤ b ∧ b ≤ 400)) ∧ w = w') := by
  refine calls_W (fn := Tryz.f7) (rs := [.tmp 4]) (n := 19) Tryz.func7 rfl rfl Tryz.ntmps7 (by kernel_rfl) rfl ?_
  refine W_seq ?_
  refine W_region ?_
  refine WR_val rfl (rn_assign) ?_
  refine WR_nil ?_
  refine thenN ?_
  refine W_seq ?_
  refine W_region ?_
  refine WR_val rfl (rn_move) ?_
  refine WR_val rfl (rn_geq rfl rfl) ?_
  refine WR_val rfl (rn_move) ?_
  refine WR_part 7 rfl (fun h1 => ?_) (fun h1 => ?_)
  ·
    refine WR_yes rfl ?_
    refine WR_val rfl (rn_move) ?_
    refine WR_yes rfl ?_
    refine WR_val rfl (rn_leq rfl rfl) ?_
    refine WR_val rfl (rn_pick_t rfl) ?_
    refine WR_val rfl (rn_move) ?_
    refine WR_part 11 rfl (fun h2 => ?_) (fun h2 => ?_)
    ·
      refine WR_yes rfl ?_
      refine WR_val rfl (rn_move) ?_
      refine WR_yes rfl ?_
      refine WR_val rfl (rn_geq rfl rfl) ?_
      refine WR_val rfl (rn_pick_t rfl) ?_
      refine WR_val rfl (rn_move) ?_
      refine WR_part 15 rfl (fun h3 => ?_) (fun h3 => ?_)
      ·
        refine WR_yes rfl ?_
        refine WR_val rfl (rn_move) ?_
        refine WR_yes rfl ?_
        refine WR_val rfl (rn_leq rfl rfl) ?_
        refine WR_val rfl (rn_pick_t rfl) ?_
        refine WR_val rfl (rn_assign) ?_
        refine WR_nil ?_
        refine thenN ?_
        refine W_ret ?_
        refine ret_ret [_] ⟨rfl, trivial⟩ ?_
        refine ⟨?_, rfl⟩
        show Value.bool (decide (b ≤ 400)) = _
        congr 1
        rw [decide_eq_decide]
        omega
      ·
        refine WR_no rfl rfl ?_
        refine WR_no rfl rfl ?_
        refine WR_val rfl (rn_pick_f rfl) ?_
        refine WR_val rfl (rn_assign) ?_
        refine WR_nil ?_
        refine thenN ?_
        refine W_ret ?_
        refine ret_ret [_] ⟨rfl, trivial⟩ ?_
        exact ⟨by rw [decide_eq_false (show ¬ ((4 ≤ a ∧ a ≤ 80) ∧ 4 ≤ b ∧ b ≤ 400) by omega)]; rfl, rfl⟩
    ·
      refine WR_no rfl rfl ?_
      refine WR_no rfl rfl ?_
      refine WR_val rfl (rn_pick_f rfl) ?_
      refine WR_val rfl (rn_move) ?_
      refine WR_no rfl rfl ?_
      refine WR_no rfl rfl ?_
      refine WR_val rfl (rn_pick_f rfl) ?_
      refine WR_val rfl (rn_assign) ?_
      refine WR_nil ?_
      refine thenN ?_
      refine W_ret ?_
      refine ret_ret [_] ⟨rfl, trivial⟩ ?_
      exact ⟨by rw [decide_eq_false (show ¬ ((4 ≤ a ∧ a ≤ 80) ∧ 4 ≤ b ∧ b ≤ 400) by omega)]; rfl, rfl⟩
  ·
    refine WR_no rfl rfl ?_
    refine WR_no rfl rfl ?_
    refine WR_val rfl (rn_pick_f rfl) ?_
    refine WR_val rfl (rn_move) ?_
    refine WR_no rfl rfl ?_
    refine WR_no rfl rfl ?_
    refine WR_val rfl (rn_pick_f rfl) ?_
    refine WR_val rfl (rn_move) ?_
    refine WR_no rfl rfl ?_
    refine WR_no rfl rfl ?_
    refine WR_val rfl (rn_pick_f rfl) ?_
    refine WR_val rfl (rn_assign) ?_
    refine WR_nil ?_
    refine thenN ?_
    refine W_ret ?_
    refine ret_ret [_] ⟨rfl, trivial⟩ ?_
    exact ⟨by rw [decide_eq_false (show ¬ ((4 ≤ a ∧ a ≤ 80) ∧ 4 ≤ b ∧ b ≤ 400) by omega)]; rfl, rfl⟩
end Go.Proofs.YtielfpkjoidomaaGreat
namespace Go.Proofs.YtielfpkjoidomaaGreat
open Go Go.RowKit Coup
section
variable {X : World → List Nat → Prop} [Thing X] {q lo : Nat} {L : List Nat} {P : Pl} {V : Nat → Pg} {k : Nat} {w : World}
theorem sGet (h : Two X (PZ q P) lo L w) (hi : PlI P V k) (n : Int) : Calls Tryz.prog 17 [.pointer (some ⟨q, 0, none⟩), .int .i64 n].toArray w (Ret fun v w' => v = .tuple #[.agg (bv (gX P V n)).toArray, .int .i64 (rdE P n)] ∧ Two X (PZ q (gP P n)) lo L w' ∧ LoL lo L w w') :=
  (zGet h.swap hi n).to fun _ _ ⟨a, b, c⟩ => ⟨a, b.swap, c⟩
theorem sPut (h : Two X (PZ q P) lo L w) (hi : PlI P V k) (n : Int) {x : Pg} (hX : x.length = 512) : Calls Tryz.prog 12 [.pointer (some ⟨q, 0, none⟩), .int .i64 n, .agg (bv x).toArray].toArray w (Ret fun v w' => v = .int .i64 (rdE P n) ∧ Two X (PZ q (pP P n x)) lo L w' ∧ LoL lo L w w') :=
  (zPut h.swap hi n hX).to fun _ _ ⟨a, b, c⟩ => ⟨a, b.swap, c⟩
theorem sCommit (h : Two X (PZ q P) lo L w) (hi : PlI P V k) : Calls Tryz.prog 16 [.pointer (some ⟨q, 0, none⟩)].toArray w (Ret fun v w' => v = .int .i64 (commitP P).1 ∧ Two X (PZ q (commitP P).2) lo L w' ∧ LoL lo L w w') :=
  (zCommit h.swap hi).to fun _ _ ⟨a, b, c⟩ => ⟨a, b.swap, c⟩
theorem sAbort (h : Two X (PZ q P) lo L w) (hi : PlI P V k) : Calls Tryz.prog 14 [.pointer (some ⟨q, 0, none⟩)].toArray w (Ret fun v w' => v = .int .i64 0 ∧ Two X (PZ q { P with ch := noP }) lo L w' ∧ LoL lo L w w') :=
  (zAbort h.swap hi).to fun _ _ ⟨a, b, c⟩ => ⟨a, b.swap, c⟩
theorem sCheck (h : Two X (PZ q P) lo L w) (hi : PlI P V k) : Calls Tryz.prog 19 [.pointer (some ⟨q, 0, none⟩)].toArray w (Ret fun v w' => v = .int .i64 (checkR P).1 ∧ Two X (PZ q (checkR P).2) lo L w' ∧ LoL lo L w w') :=
  (zCheck h.swap hi).to fun _ _ ⟨a, b, c⟩ => ⟨a, b.swap, c⟩
theorem sl_lo {w' : World} {p : Option Addr} {m sz : Nat} {cs : List Value} {L : List Nat} (h : SlAt w p m sz cs) (hz : 0 < sz) (hk : LoL w.heap.size L w w') : SlAt w' p m sz cs :=
  sl_kp0 h hk.kp fun h0 b o e => notLL (.inl (by
    obtain ⟨g, o', e2, hl⟩ := h.some (Nat.mul_pos h0 hz)
    rw [e] at e2; cases e2; exact hl))
end
theorem gX_len {P : Pl} {V : Nat → Pg} {k : Nat} (h : PlI P V k) (n : Int) : (gX P V n).length = 512 := by
  unfold gX
  split
  · rename_i hn
    unfold inP at hn
    cases hc : P.ch n.toNat with
    | some b => exact h.ok.ch _ _ hc
    | none => exact h.ln _ (by omega)
  · exact zeroP_len
theorem gP_fr (P : Pl) (n : Int) : (gP P n).fr = P.fr := by
  unfold gP getP
  split
  · split
    · rfl
    · exact (askP_same P _).2.2.1
  · rfl
theorem pP_fr (P : Pl) (n : Int) (X : Pg) : (pP P n X).fr = P.fr := by
  unfold pP putP
  split
  · exact (askP_same P _).2.2.1
  · rfl
set_option maxHeartbeats 4000000 in
set_option maxRecDepth 20000 in
theorem poolFramesC (pages s one two : Int) (p : Option Addr) (n cp : Nat) (R : List PStep) (w : World) (h : ElsAt (PsQ w) w 4 p n R) :
    Calls Tryz.prog 4 [.int .i64 pages, .int .i64 s, .int .i64 one, .int .i64 two, .slice p n cp].toArray w (Ret fun v w' => v = .bool true ∧ Below w.heap.size w w') := by
  have hB := Below.refl w.heap.size w
  have hLL := LoL.refl w.heap.size [] w
  have hml : maxLen = 9223372036854775807 := by decide
  have hfit := fits06 pages s w
  have hfew := few06 p n cp 50 R w h (by omega)
  have hRl := h.1
  have hz : zP.length = 512 := List.length_replicate
  have hz1 : ∀ v ∈ zP, Value.oneCell' v = true := fun v hv => by rw [(List.mem_replicate.1 hv).2]; rfl
  have hN0 : Two None None w.heap.size [] w := ⟨⟨[], [], rfl, rfl, (fun b hb => nomatch hb), fun b hb => nomatch hb⟩, Nat.le_refl _, fun b hb => nomatch hb⟩
  refine Calls.to (R := fun v w' => v = .bool true ∧ LoL w.heap.size [] w w') ?_ (fun v w' hh => ⟨hh.1, belLL (Below.refl _ _) hh.2 (Nat.le_refl _)⟩)
  refine calls_W (fn := Tryz.f4) (rs := [.tmp 10]) (n := 179) Tryz.func4 rfl rfl Tryz.ntmps4 (by kernel_rfl) rfl ?_
  refine W_seq ?_
  refine W_region ?_
  refine WR_val rfl (rn_assign) ?_
  refine WR_nil ?_
  refine thenN ?_
  refine W_seq ?_
  refine W_seq ?_
  refine W_region ?_
  refine WR_val rfl (rn_move) ?_
  refine WR_val rfl (rn_move) ?_
  refine WR_ent rfl (rn_call (by kernel_rfl) rfl) (hfit) ?_
  rintro _ _ ⟨rfl, rfl⟩
  refine WR_val rfl (rn_not rfl) ?_
  refine WR_val rfl (rn_move) ?_
  refine WR_partnb 27 rfl (fun hA => ?_) (fun hA => ?_)
  ·
    refine WR_no rfl rfl ?_
    refine WR_no rfl rfl ?_
    refine WR_no rfl rfl ?_
    refine WR_val rfl (rn_pick_t rfl) ?_
    refine WR_val rfl (rn_move) ?_
    refine WR_no rfl rfl ?_
    refine WR_no rfl rfl ?_
    refine WR_val rfl (rn_pick_t rfl) ?_
    refine WR_val rfl (rn_move) ?_
    refine WR_no rfl rfl ?_
    refine WR_no rfl rfl ?_
    refine WR_val rfl (rn_pick_t rfl) ?_
    refine WR_val rfl (rn_move) ?_
    refine WR_no rfl rfl ?_
    refine WR_no rfl rfl ?_
    refine WR_val rfl (rn_pick_t rfl) ?_
    refine WR_val rfl (rn_move) ?_
    refine WR_no rfl rfl ?_
    refine WR_no rfl rfl ?_
    refine WR_val rfl (rn_pick_t rfl) ?_
    refine WR_nil ?_
    refine thenN ?_
    refine W_t rfl ?_
    refine W_seq ?_
    refine W_region ?_
    refine WR_ent rfl (rn_call (by kernel_rfl) rfl) (known06 w) ?_
    rintro _ w48 ⟨rfl, hb48⟩
    replace hLL := hLL.new hb48
    refine WR_val rfl (rn_assign) ?_
    refine WR_nil ?_
    refine thenN ?_
    refine W_ret ?_
    refine thenR ?_
    refine ret_ret [_] ⟨rfl, trivial⟩ ?_
    exact ⟨rfl, hLL⟩
  ·
    refine WR_yes rfl ?_
    refine WR_val rfl (rn_move) ?_
    refine WR_yes rfl ?_
    refine WR_ent rfl (rn_call (by kernel_rfl) rfl) (hfew) ?_
    rintro _ _ ⟨B, rfl, hBf, rfl⟩
    refine WR_yes rfl ?_
    refine WR_val rfl (rn_not rfl) ?_
    refine WR_val rfl (rn_pick_f rfl) ?_
    refine WR_val rfl (rn_move) ?_
    refine WR_partnb 32 rfl (fun hF => ?_) (fun hF => ?_)
    ·
      refine WR_no rfl rfl ?_
      refine WR_no rfl rfl ?_
      refine WR_val rfl (rn_pick_t rfl) ?_
      refine WR_val rfl (rn_move) ?_
      refine WR_no rfl rfl ?_
      refine WR_no rfl rfl ?_
      refine WR_val rfl (rn_pick_t rfl) ?_
      refine WR_val rfl (rn_move) ?_
      refine WR_no rfl rfl ?_
      refine WR_no rfl rfl ?_
      refine WR_val rfl (rn_pick_t rfl) ?_
      refine WR_val rfl (rn_move) ?_
      refine WR_no rfl rfl ?_
      refine WR_no rfl rfl ?_
      refine WR_val rfl (rn_pick_t rfl) ?_
      refine WR_nil ?_
      refine thenN ?_
      refine W_t rfl ?_
      refine W_seq ?_
      refine W_region ?_
      refine WR_ent rfl (rn_call (by kernel_rfl) rfl) (known06 w) ?_
      rintro _ w48 ⟨rfl, hb48⟩
      replace hLL := hLL.new hb48
      refine WR_val rfl (rn_assign) ?_
      refine WR_nil ?_
      refine thenN ?_
      refine W_ret ?_
      refine thenR ?_
      refine ret_ret [_] ⟨rfl, trivial⟩ ?_
      exact ⟨rfl, hLL⟩
    ·
      refine WR_yes rfl ?_
      refine WR_val rfl (rn_move) ?_
      refine WR_yes rfl ?_
      refine WR_val rfl (rn_lss rfl rfl) ?_
      refine WR_val rfl (rn_pick_f rfl) ?_
      refine WR_val rfl (rn_move) ?_
      refine WR_part 36 rfl (fun h1 => ?_) (fun h1 => ?_)
      ·
        refine WR_no rfl rfl ?_
        refine WR_no rfl rfl ?_
        refine WR_val rfl (rn_pick_t rfl) ?_
        refine WR_val rfl (rn_move) ?_
        refine WR_no rfl rfl ?_
        refine WR_no rfl rfl ?_
        refine WR_val rfl (rn_pick_t rfl) ?_
        refine WR_val rfl (rn_move) ?_
        refine WR_no rfl rfl ?_
        refine WR_no rfl rfl ?_
        refine WR_val rfl (rn_pick_t rfl) ?_
        refine WR_nil ?_
        refine thenN ?_
        refine W_t rfl ?_
        refine W_seq ?_
        refine W_region ?_
        refine WR_ent rfl (rn_call (by kernel_rfl) rfl) (known06 w) ?_
        rintro _ w48 ⟨rfl, hb48⟩
        replace hLL := hLL.new hb48
        refine WR_val rfl (rn_assign) ?_
        refine WR_nil ?_
        refine thenN ?_
        refine W_ret ?_
        refine thenR ?_
        refine ret_ret [_] ⟨rfl, trivial⟩ ?_
        exact ⟨rfl, hLL⟩
      ·
        refine WR_yes rfl ?_
        refine WR_val rfl (rn_move) ?_
        refine WR_yes rfl ?_
        refine WR_val rfl (rn_gtr rfl rfl) ?_
        refine WR_val rfl (rn_pick_f rfl) ?_
        refine WR_val rfl (rn_move) ?_
        refine WR_part 40 rfl (fun h2 => ?_) (fun h2 => ?_)
        ·
          refine WR_no rfl rfl ?_
          refine WR_no rfl rfl ?_
          refine WR_val rfl (rn_pick_t rfl) ?_
          refine WR_val rfl (rn_move) ?_
          refine WR_no rfl rfl ?_
          refine WR_no rfl rfl ?_
          refine WR_val rfl (rn_pick_t rfl) ?_
          refine WR_nil ?_
          refine thenN ?_
          refine W_t rfl ?_
          refine W_seq ?_
          refine W_region ?_
          refine WR_ent rfl (rn_call (by kernel_rfl) rfl) (known06 w) ?_
          rintro _ w48 ⟨rfl, hb48⟩
          replace hLL := hLL.new hb48
          refine WR_val rfl (rn_assign) ?_
          refine WR_nil ?_
          refine thenN ?_
          refine W_ret ?_
          refine thenR ?_
          refine ret_ret [_] ⟨rfl, trivial⟩ ?_
          exact ⟨rfl, hLL⟩
        ·
          refine WR_yes rfl ?_
          refine WR_val rfl (rn_move) ?_
          refine WR_yes rfl ?_
          refine WR_val rfl (rn_lss rfl rfl) ?_
          refine WR_val rfl (rn_pick_f rfl) ?_
          refine WR_val rfl (rn_move) ?_
          refine WR_part 44 rfl (fun h3 => ?_) (fun h3 => ?_)
          ·
            refine WR_no rfl rfl ?_
            refine WR_no rfl rfl ?_
            refine WR_val rfl (rn_pick_t rfl) ?_
            refine WR_nil ?_
            refine thenN ?_
            refine W_t rfl ?_
            refine W_seq ?_
            refine W_region ?_
            refine WR_ent rfl (rn_call (by kernel_rfl) rfl) (known06 w) ?_
            rintro _ w48 ⟨rfl, hb48⟩
            replace hLL := hLL.new hb48
            refine WR_val rfl (rn_assign) ?_
            refine WR_nil ?_
            refine thenN ?_
            refine W_ret ?_
            refine thenR ?_
            refine ret_ret [_] ⟨rfl, trivial⟩ ?_
            exact ⟨rfl, hLL⟩
          ·
            refine WR_yes rfl ?_
            refine WR_val rfl (rn_move) ?_
            refine WR_yes rfl ?_
            refine WR_val rfl (rn_gtr rfl rfl) ?_
            refine WR_val rfl (rn_pick_f rfl) ?_
            refine WR_nil ?_
            refine thenN ?_
            refine W_ifp rfl (fun h4 => ?_) (fun h4 => ?_)
            ·
              refine W_seq ?_
              refine W_region ?_
              refine WR_ent rfl (rn_call (by kernel_rfl) rfl) (known06 w) ?_
              rintro _ w48 ⟨rfl, hb48⟩
              replace hLL := hLL.new hb48
              refine WR_val rfl (rn_assign) ?_
              refine WR_nil ?_
              refine thenN ?_
              refine W_ret ?_
              refine thenR ?_
              refine ret_ret [_] ⟨rfl, trivial⟩ ?_
              exact ⟨rfl, hLL⟩
            ·
              have hA2 : (4 ≤ pages ∧ pages ≤ 80) ∧ 4 ≤ s ∧ s ≤ 400 := by simpa using hA
              have hF2 : fewP R 50 := hBf (by simpa using hF)
              have hob : ∃ P0 S0 o1 o2 : Nat, pages = P0 ∧ s = S0 ∧ one = o1 ∧ two = o2 := ⟨pages.toNat, s.toNat, one.toNat, two.toNat, by omega, by omega, by omega, by omega⟩
              obtain ⟨P0, S0, o1, o2, e1, e2, e3, e4⟩ := hob
              subst e1 e2 e3 e4
              have hbg := begunC hN0 P0 S0 o1 (by omega) (by omega) (by omega) (by omega) (by omega) (by omega)
              have hbg2 := fun q w' (h' : Two (PZ q (frP P0 S0 o1)) None w.heap.size [] w') => begunC h' P0 S0 o2 (by omega) (by omega) (by omega) (by omega) (by omega) (by omega)
              have hi1 : PlI (frP P0 S0 o1) (fun _ => zeroP) 2 := frP_inv (by omega) (by omega) (by omega) (by omega) (by omega) (by omega)
              have hi2 : PlI (frP P0 S0 o2) (fun _ => zeroP) 2 := frP_inv (by omega) (by omega) (by omega) (by omega) (by omega) (by omega)
              have hsf : SameF (frP P0 S0 o1) (frP P0 S0 o2) := ⟨rfl, rfl, rfl, rfl, rfl⟩
              have hf1 : (frP P0 S0 o1).fr = o1 := rfl
              have hf2 : (frP P0 S0 o2).fr = o2 := rfl
              have hn50 := hF2.1
              generalize frP P0 S0 o1 = K1 at *
              generalize frP P0 S0 o2 = K2 at *
              refine W_skip ?_
              refine thenN ?_
              refine W_seq ?_
              refine W_region ?_
              refine WR_val rfl (rn_move) ?_
              refine WR_val rfl (rn_move) ?_
              refine WR_val rfl (rn_move) ?_
              refine WR_ent rfl (rn_call (by kernel_rfl) rfl) (hbg) ?_
              rintro _ w53 ⟨⟨g, x, q, mc, md, cv, rfl, hP⟩, hb53⟩
              have hT := pl_close hP
              clear hP
              replace hLL := hLL.ll hb53 (by first | (intro b hb; exact hb) | (intro b hb; simp [hb]; done) | simp)
              refine WR_val rfl (rn_move) ?_
              refine WR_val rfl (rn_extract rfl rfl) ?_
              refine WR_val rfl (rn_extract rfl rfl) ?_
              refine WR_val rfl (rn_extract rfl rfl) ?_
              refine WR_val rfl (rn_assign) ?_
              refine WR_val rfl (rn_assign) ?_
              refine WR_val rfl (rn_assign) ?_
              refine WR_nil ?_
              refine thenN ?_
              refine W_seq ?_
              refine W_region ?_
              refine WR_val rfl (rn_move) ?_
              refine WR_val rfl (rn_move) ?_
              refine WR_val rfl (rn_move) ?_
              refine WR_ent rfl (rn_call (by kernel_rfl) rfl) (hbg2 q w53 hT) ?_
              rintro _ w61 ⟨⟨g2, x2, q2, mc2, md2, cv2, rfl, hP⟩, hb61⟩
              have hT := (pl_close hP).swap
              clear hP
              replace hLL := hLL.ll hb61 (by first | (intro b hb; exact hb) | (intro b hb; simp [hb]; done) | simp)
              refine WR_val rfl (rn_move) ?_
              refine WR_val rfl (rn_extract rfl rfl) ?_
              refine WR_val rfl (rn_extract rfl rfl) ?_
              refine WR_val rfl (rn_extract rfl rfl) ?_
              refine WR_val rfl (rn_assign) ?_
              refine WR_val rfl (rn_assign) ?_
              refine WR_val rfl (rn_assign) ?_
              refine WR_nil ?_
              refine thenN ?_
              refine W_seq ?_
              refine W_seq ?_
              refine W_region ?_
              refine WR_val rfl (rn_move) ?_
              refine WR_val rfl (rn_not rfl) ?_
              refine WR_val rfl (rn_move) ?_
              refine WR_fnb 67 rfl (rfl) ?_
              refine WR_yes rfl ?_
              refine WR_val rfl (rn_move) ?_
              refine WR_yes rfl ?_
              refine WR_val rfl (rn_not rfl) ?_
              refine WR_val rfl (rn_pick_f rfl) ?_
              refine WR_nil ?_
              refine thenN ?_
              refine W_fnb rfl (rfl) ?_
              refine W_skip ?_
              refine thenN ?_
              refine W_seq ?_
              refine W_seq ?_
              refine W_region ?_
              refine WR_val rfl (rn_assign) ?_
              refine WR_nil ?_
              refine thenN ?_
              refine W_block ?_
              refine W_loop (α := Nat × (Pl × Pl) × (Nat → Pg)) (0, (K1, K2), fun _ => zeroP) (fun a => [(17, .int .i64 (a.1 : Nat)), (4, .slice p n cp), (12, .pointer (some ⟨q, 0, none⟩)), (15, .pointer (some ⟨q2, 0, none⟩)), (2, .int .i64 (o1 : Int)), (3, .int .i64 (o2 : Int))])
                (fun a w' => a.1 ≤ n ∧ PlI a.2.1.1 a.2.2 (2 + 2 * a.1) ∧ PlI a.2.1.2 a.2.2 (2 + 2 * a.1) ∧ SameF a.2.1.1 a.2.1.2 ∧ a.2.1.1.fr = o1 ∧ a.2.1.2.fr = o2 ∧ Two (PZ q a.2.1.1) (PZ q2 a.2.1.2) w.heap.size [] w' ∧ LoL w.heap.size [] w w') (fun a => n - a.1)
                ⟨rfl, rfl, rfl, rfl, rfl, rfl, rfl⟩ ⟨Nat.zero_le _, hi1, hi2, hsf, hf1, hf2, hT, hLL⟩ ?_
              clear hT hLL hi1 hi2 hsf hf1 hf2 hbg hbg2 hfit hfew hN0 hA hF hB
              rintro ⟨i, ⟨P, Q⟩, V⟩ f wr ⟨hi, hiP, hiQ, hsf, hf1, hf2, hT, hLL⟩
              dsimp only at hi hiP hiQ hsf hf1 hf2 hT hLL
              have hPn := z_n hT
              refine W_seq ?_
              refine W_seq ?_
              refine W_region ?_
              refine WR_val rfl (rn_move) ?_
              refine WR_val rfl (rn_move) ?_
              refine WR_val rfl (rn_lenSl (e := 33) (sz := 4) (by kernel_rfl) rfl rfl) ?_
              refine WR_val rfl (rn_lss rfl rfl) ?_
              refine WR_nil ?_
              refine thenN ?_
              refine W_ifp rfl (fun hlt => ?_) (fun hlt => ?_)
              ·
                refine W_skip ?_
                refine thenN ?_
                refine W_seq ?_
                refine W_block ?_
                refine W_seq ?_
                have hobx := h.get (i := i) (by omega)
                obtain ⟨a, hx⟩ := hobx
                have hobg := h.some (by omega)
                obtain ⟨gp, op, hgp, hgpl⟩ := hobg
                subst hgp
                have hle := h.ldB (P := Tryz.prog) (t := 33) (by kernel_rfl) (by kernel_rfl) hx
                obtain ⟨cs, hcs, hcl, hce⟩ := hle
                obtain ⟨qa, ca, hcs, hbs, wk, wn, wm⟩ := hcs
                subst hcs
                have hbl := hF2.2 a (List.mem_of_getElem? hx)
                have hXl : (pageB a.b).length = 512 := pageB_len _
                have hBel := belLL (Below.refl _ _) hLL (Nat.le_refl _)
                have hzs := hLL.size
                refine W_region ?_
                refine WR_val rfl (rn_move) ?_
                refine WR_val rfl (rn_move) ?_
                refine WR_val rfl (rn_indexSl (e := 33) (sz := 4) (by kernel_rfl) rfl rfl (i) (by omega) (by omega)) ?_
                have hld80 := (hce wr hBel).1
                refine WR_val rfl (rn_load rfl (hld80)) ?_
                refine WR_mk rfl (mk_alloc ([Value.int .i64 0, Value.int .i64 0, Value.int .i64 0, Value.slice none 0 0]) (by kernel_rfl) (fun g18 w18 hg18 hr18 hb18 => ?_))
                replace hLL := hLL.new hb18
                replace hT := hT.newc hb18 hg18 hr18.lt
                refine WR_sk rfl (sk_storeA 4 ([.int .i64 a.kind, .int .i64 a.n, .int .i64 a.many, .slice qa a.b.length ca]) rfl rfl hr18 (by kernel_rfl) (by first | assumption | (simp; done) | (simp [bv_length, *]; done)) (by first | assumption | (simp; done) | (simp [bv_length, *]; done) | rfl) (by first | exact bv_one _ | assumption | (simp [Value.oneCell']; done)) (fun w901 hr18 ho901 => ?_))
                replace hLL := hLL.only ho901 (by first | omega | (right; exact ⟨by omega, by assumption⟩))
                replace hT := hT.only ho901 (by first | (right; simp; done) | (left; omega))
                refine WR_nil ?_
                refine thenN ?_
                refine W_seq ?_
                refine W_region ?_
                refine WR_val rfl (rn_assign) ?_
                refine WR_val rfl (rn_assign) ?_
                refine WR_nil ?_
                refine thenN ?_
                refine W_seq ?_
                refine W_region ?_
                refine WR_mk rfl (mk_alloc (zP) (by kernel_rfl) (fun g21 w21 hg21 hr21 hb21 => ?_))
                have lt_g18_g21 : g18 < g21 := Nat.lt_of_lt_of_le hr18.lt hg21
                replace hLL := hLL.new hb21
                replace hT := hT.newc hb21 hg21 hr21.lt
                replace hr18 := hr18.new hb21
                refine WR_mk rfl (mk_alloc (zP) (by kernel_rfl) (fun g22 w22 hg22 hr22 hb22 => ?_))
                have lt_g18_g22 : g18 < g22 := Nat.lt_of_lt_of_le hr18.lt hg22
                have lt_g21_g22 : g21 < g22 := Nat.lt_of_lt_of_le hr21.lt hg22
                replace hLL := hLL.new hb22
                replace hT := hT.newc hb22 hg22 hr22.lt
                replace hr18 := hr18.new hb22
                replace hr21 := hr21.new hb22
                refine WR_nil ?_
                refine thenN ?_
                refine W_cut (fun a' : Int × Pg × (Pl × Pl) × (Nat → Pg) => [(19, .int .i64 a'.1), (20, .int .i64 a'.1), (21, .pointer (some ⟨g21, 0, none⟩)), (22, .pointer (some ⟨g22, 0, none⟩)), (12, .pointer (some ⟨q, 0, none⟩)), (15, .pointer (some ⟨q2, 0, none⟩)), (2, .int .i64 (o1 : Int)), (3, .int .i64 (o2 : Int)), (17, .int .i64 (i : Nat)), (4, .slice (some ⟨gp, op, none⟩) n cp)]) (fun a' w' => PlI a'.2.2.1.1 a'.2.2.2 (4 + 2 * i) ∧ PlI a'.2.2.1.2 a'.2.2.2 (4 + 2 * i) ∧ SameF a'.2.2.1.1 a'.2.2.1.2 ∧ a'.2.2.1.1.fr = o1 ∧ a'.2.2.1.2.fr = o2 ∧ a'.2.1.length = 512 ∧ row w' g21 (bv a'.2.1) 37 ∧ row w' g22 (bv a'.2.1) 37 ∧ Two (PZ q a'.2.2.1.1) (PZ q2 a'.2.2.1.2) w.heap.size [g22, g21, g18] w' ∧ LoL w.heap.size [] w w') ?_ ?_
                ·
                  refine W_seq ?_
                  rw [← zeroP_bv] at hr21 hr22
                  have hzs2 := hLL.size
                  have hZb : (bv zeroP).length = 512 := by rw [bv_length]; exact zeroP_len
                  refine W_region ?_
                  refine WR_val rfl (rn_fieldAddr (off := 0) (by kernel_rfl) rfl) ?_
                  refine WR_val rfl (rn_load rfl (Ld.row1 hr18 (by kernel_rfl) rfl)) ?_
                  refine WR_nil ?_
                  refine thenN ?_
                  refine W_block ?_
                  refine W_seq ?_
                  refine W_region ?_
                  refine WR_val rfl (rn_eql rfl rfl) ?_
                  refine WR_val rfl (rn_assign) ?_
                  refine WR_nil ?_
                  refine thenN ?_
                  refine W_ifp rfl (fun k1 => ?_) (fun k1 => ?_)
                  ·
                    refine W_seq ?_
                    have hGl := gX_len hiP a.n
                    have hGb : (bv (gX P V a.n)).length = 512 := by rw [bv_length]; exact hGl
                    refine W_region ?_
                    refine WR_val rfl (rn_move) ?_
                    refine WR_val rfl (rn_fieldAddr (off := 1) (by kernel_rfl) rfl) ?_
                    refine WR_val rfl (rn_load rfl (Ld.row1 hr18 (by kernel_rfl) rfl)) ?_
                    refine WR_ent rfl (rn_call (by kernel_rfl) rfl) (zGet hT hiP a.n) ?_
                    rintro _ w89 ⟨rfl, hT, hb89⟩
                    replace hLL := hLL.ll hb89 (by first | (intro b hb; exact hb) | (intro b hb; simp [hb]; done) | simp)
                    replace hr18 := hr18.kpd hb89.kp (by first | (refine notLL ?_; left; omega) | (refine notLL ?_; right; simp; done) | (intro b o e; cases e; first | (refine notLL ?_; left; omega) | (refine notLL ?_; right; simp; done) | (refine notLL ?_; right; simp [*]; done)) | (intro b hb; refine notLL ?_; left; omega) | (intro b hb e; cases e; exact notLL (by right; simp [*]) hb))
                    replace hr21 := hr21.kpd hb89.kp (by first | (refine notLL ?_; left; omega) | (refine notLL ?_; right; simp; done) | (intro b o e; cases e; first | (refine notLL ?_; left; omega) | (refine notLL ?_; right; simp; done) | (refine notLL ?_; right; simp [*]; done)) | (intro b hb; refine notLL ?_; left; omega) | (intro b hb e; cases e; exact notLL (by right; simp [*]) hb))
                    replace hr22 := hr22.kpd hb89.kp (by first | (refine notLL ?_; left; omega) | (refine notLL ?_; right; simp; done) | (intro b o e; cases e; first | (refine notLL ?_; left; omega) | (refine notLL ?_; right; simp; done) | (refine notLL ?_; right; simp [*]; done)) | (intro b hb; refine notLL ?_; left; omega) | (intro b hb e; cases e; exact notLL (by right; simp [*]) hb))
                    refine WR_val rfl (rn_move) ?_
                    refine WR_val rfl (rn_extract rfl rfl) ?_
                    refine WR_val rfl (rn_extract rfl rfl) ?_
                    refine WR_sk rfl (sk_storeA 512 (bv (gX P V a.n)) rfl rfl hr21 (by kernel_rfl) (by first | assumption | (simp; done) | (simp [bv_length, *]; done)) (by first | assumption | (simp; done) | (simp [bv_length, *]; done) | rfl) (by first | exact bv_one _ | assumption | (simp [Value.oneCell']; done)) (fun w902 hr21 ho902 => ?_))
                    replace hLL := hLL.only ho902 (by first | omega | (right; exact ⟨by omega, by assumption⟩))
                    replace hT := hT.only ho902 (by first | (right; simp; done) | (left; omega))
                    replace hr18 := hr18.only ho902 (Nat.ne_of_lt lt_g18_g21)
                    replace hr22 := hr22.only ho902 (Nat.ne_of_gt lt_g21_g22)
                    refine WR_val rfl (rn_assign) ?_
                    refine WR_nil ?_
                    refine thenN ?_
                    refine W_region ?_
                    refine WR_val rfl (rn_move) ?_
                    refine WR_val rfl (rn_fieldAddr (off := 1) (by kernel_rfl) rfl) ?_
                    refine WR_val rfl (rn_load rfl (Ld.row1 hr18 (by kernel_rfl) rfl)) ?_
                    have hsg2 := sGet hT hiQ a.n
                    rw [hsf.gX V a.n, hsf.rdE a.n] at hsg2
                    refine WR_ent rfl (rn_call (by kernel_rfl) rfl) (hsg2) ?_
                    rintro _ w96 ⟨rfl, hT, hb96⟩
                    replace hLL := hLL.ll hb96 (by first | (intro b hb; exact hb) | (intro b hb; simp [hb]; done) | simp)
                    replace hr18 := hr18.kpd hb96.kp (by first | (refine notLL ?_; left; omega) | (refine notLL ?_; right; simp; done) | (intro b o e; cases e; first | (refine notLL ?_; left; omega) | (refine notLL ?_; right; simp; done) | (refine notLL ?_; right; simp [*]; done)) | (intro b hb; refine notLL ?_; left; omega) | (intro b hb e; cases e; exact notLL (by right; simp [*]) hb))
                    replace hr21 := hr21.kpd hb96.kp (by first | (refine notLL ?_; left; omega) | (refine notLL ?_; right; simp; done) | (intro b o e; cases e; first | (refine notLL ?_; left; omega) | (refine notLL ?_; right; simp; done) | (refine notLL ?_; right; simp [*]; done)) | (intro b hb; refine notLL ?_; left; omega) | (intro b hb e; cases e; exact notLL (by right; simp [*]) hb))
                    replace hr22 := hr22.kpd hb96.kp (by first | (refine notLL ?_; left; omega) | (refine notLL ?_; right; simp; done) | (intro b o e; cases e; first | (refine notLL ?_; left; omega) | (refine notLL ?_; right; simp; done) | (refine notLL ?_; right; simp [*]; done)) | (intro b hb; refine notLL ?_; left; omega) | (intro b hb e; cases e; exact notLL (by right; simp [*]) hb))
                    refine WR_val rfl (rn_move) ?_
                    refine WR_val rfl (rn_extract rfl rfl) ?_
                    refine WR_val rfl (rn_extract rfl rfl) ?_
                    refine WR_sk rfl (sk_storeA 512 (bv (gX P V a.n)) rfl rfl hr22 (by kernel_rfl) (by first | assumption | (simp; done) | (simp [bv_length, *]; done)) (by first | assumption | (simp; done) | (simp [bv_length, *]; done) | rfl) (by first | exact bv_one _ | assumption | (simp [Value.oneCell']; done)) (fun w903 hr22 ho903 => ?_))
                    replace hLL := hLL.only ho903 (by first | omega | (right; exact ⟨by omega, by assumption⟩))
                    replace hT := hT.only ho903 (by first | (right; simp; done) | (left; omega))
                    replace hr18 := hr18.only ho903 (Nat.ne_of_lt lt_g18_g22)
                    replace hr21 := hr21.only ho903 (Nat.ne_of_lt lt_g21_g22)
                    refine WR_val rfl (rn_assign) ?_
                    refine WR_nil ?_
                    refine blockN ?_
                    refine loopN ⟨(rdE P a.n, gX P V a.n, (gP P a.n, gP Q a.n), V), ⟨rfl, rfl, rfl, rfl, rfl, rfl, rfl, rfl, rfl, rfl, rfl⟩, (hiP.gP _).up (by omega), (hiQ.gP _).up (by omega), hsf.gP _, (gP_fr P _).trans hf1, (gP_fr Q _).trans hf2, hGl, hr21, hr22, hT, hLL⟩
                  ·
                    refine W_seq ?_
                    refine W_region ?_
                    refine WR_val rfl (rn_eql rfl rfl) ?_
                    refine WR_val rfl (rn_assign) ?_
                    refine WR_nil ?_
                    refine thenN ?_
                    refine W_ifp rfl (fun k2 => ?_) (fun k2 => ?_)
                    ·
                      refine W_drawL (w.heap.size) ([g22, g21, g18]) (by kernel_rfl) ?_
                      intro w904 hb904 hn904 hS904
                      replace hLL := hLL.new hb904
                      replace hT := hT.new hb904
                      replace hr18 := hr18.new hb904
                      replace hr21 := hr21.new hb904
                      replace hr22 := hr22.new hb904
                      have hLL_d904 := hLL
                      have hT_d904 := hT
                      have hr18_d904 := hr18
                      have hr21_d904 := hr21
                      have hr22_d904 := hr22
                      refine WA_take 0 (by kernel_rfl) rfl (fun _ _ => rn_move) ?_
                      refine WA_take 1 (by kernel_rfl) rfl (fun _ _ => rn_fieldAddr (off := 1) (by kernel_rfl) rfl) ?_
                      refine WA_take 2 (by kernel_rfl) rfl (fun w' hS' => rn_load rfl (Ld.row1 (hr18_d904.kpd hS' (by first | (simp; done) | (simp; omega) | (simp [*]; done) | exact notLL (Or.inl (by omega)) | exact notLL (Or.inr (by simp)) | exact fun g hm => Nat.le_trans (by omega) (inLL hm).1 | (intro b o e; cases e; exact notLL (Or.inl (by omega))) | (intro b hm; have := (hu.lt b (Option.mem_toList.1 hm)).1; omega) | (intro b o e; cases e; intro hm; have := (hu.lt _ (Option.mem_toList.1 hm)).1; omega))) (by kernel_rfl) rfl)) ?_
                      refine WA_take 3 (by kernel_rfl) rfl (fun _ _ => rn_fieldAddr (off := 3) (by kernel_rfl) rfl) ?_
                      refine WA_take 4 (by kernel_rfl) rfl (fun w' hS' => rn_load rfl (Ld.row1 (hr18_d904.kpd hS' (by first | (simp; done) | (simp; omega) | (simp [*]; done) | exact notLL (Or.inl (by omega)) | exact notLL (Or.inr (by simp)) | exact fun g hm => Nat.le_trans (by omega) (inLL hm).1 | (intro b o e; cases e; exact notLL (Or.inl (by omega))) | (intro b hm; have := (hu.lt b (Option.mem_toList.1 hm)).1; omega) | (intro b o e; cases e; intro hm; have := (hu.lt _ (Option.mem_toList.1 hm)).1; omega))) (by kernel_rfl) rfl)) ?_
                      refine WA_take 7 (by kernel_rfl) rfl (fun _ _ => rn_move) ?_
                      refine WA_take 8 (by kernel_rfl) rfl (fun _ _ => rn_fieldAddr (off := 1) (by kernel_rfl) rfl) ?_
                      refine WA_take 9 (by kernel_rfl) rfl (fun w' hS' => rn_load rfl (Ld.row1 (hr18_d904.kpd hS' (by first | (simp; done) | (simp; omega) | (simp [*]; done) | exact notLL (Or.inl (by omega)) | exact notLL (Or.inr (by simp)) | exact fun g hm => Nat.le_trans (by omega) (inLL hm).1 | (intro b o e; cases e; exact notLL (Or.inl (by omega))) | (intro b hm; have := (hu.lt b (Option.mem_toList.1 hm)).1; omega) | (intro b o e; cases e; intro hm; have := (hu.lt _ (Option.mem_toList.1 hm)).1; omega))) (by kernel_rfl) rfl)) ?_
                      refine WA_take 10 (by kernel_rfl) rfl (fun _ _ => rn_fieldAddr (off := 3) (by kernel_rfl) rfl) ?_
                      refine WA_take 11 (by kernel_rfl) rfl (fun w' hS' => rn_load rfl (Ld.row1 (hr18_d904.kpd hS' (by first | (simp; done) | (simp; omega) | (simp [*]; done) | exact notLL (Or.inl (by omega)) | exact notLL (Or.inr (by simp)) | exact fun g hm => Nat.le_trans (by omega) (inLL hm).1 | (intro b o e; cases e; exact notLL (Or.inl (by omega))) | (intro b hm; have := (hu.lt b (Option.mem_toList.1 hm)).1; omega) | (intro b o e; cases e; intro hm; have := (hu.lt _ (Option.mem_toList.1 hm)).1; omega))) (by kernel_rfl) rfl)) ?_
                      refine WA_one 5 (by kernel_rfl) ?_
                      have hb1 := sl_lo hbs (by omega) hLL
                      refine WO_ent rfl rfl (rn_call (by kernel_rfl) rfl) (page06 a.b qa a.b.length ca w904 hb1) ?_
                      rintro _ w106 ⟨rfl, hb106⟩
                      have hS905 := hS904.add0 hb106
                      refine ⟨hS905, ?_⟩
                      replace hLL := hLL.new hb106
                      replace hT := hT.new hb106
                      replace hr18 := hr18.new hb106
                      replace hr21 := hr21.new hb106
                      replace hr22 := hr22.new hb106
                      refine WA_one 6 (by kernel_rfl) ?_
                      refine WO_ent rfl rfl (rn_call (by kernel_rfl) rfl) (zPut hT hiP a.n hXl) ?_
                      rintro _ w107 ⟨rfl, hT, hb107⟩
                      have hS906 := hS905.addLL hn904 hb107
                      refine ⟨hS906, ?_⟩
                      replace hLL := hLL.ll hb107 (by first | (intro b hb; exact hb) | (intro b hb; simp [hb]; done) | simp)
                      replace hr18 := hr18.kpd hb107.kp (by first | (refine notLL ?_; left; omega) | (refine notLL ?_; right; simp; done) | (intro b o e; cases e; first | (refine notLL ?_; left; omega) | (refine notLL ?_; right; simp; done) | (refine notLL ?_; right; simp [*]; done)) | (intro b hb; refine notLL ?_; left; omega) | (intro b hb e; cases e; exact notLL (by right; simp [*]) hb))
                      replace hr21 := hr21.kpd hb107.kp (by first | (refine notLL ?_; left; omega) | (refine notLL ?_; right; simp; done) | (intro b o e; cases e; first | (refine notLL ?_; left; omega) | (refine notLL ?_; right; simp; done) | (refine notLL ?_; right; simp [*]; done)) | (intro b hb; refine notLL ?_; left; omega) | (intro b hb e; cases e; exact notLL (by right; simp [*]) hb))
                      replace hr22 := hr22.kpd hb107.kp (by first | (refine notLL ?_; left; omega) | (refine notLL ?_; right; simp; done) | (intro b o e; cases e; first | (refine notLL ?_; left; omega) | (refine notLL ?_; right; simp; done) | (refine notLL ?_; right; simp [*]; done)) | (intro b hb; refine notLL ?_; left; omega) | (intro b hb e; cases e; exact notLL (by right; simp [*]) hb))
                      refine WA_one 12 (by kernel_rfl) ?_
                      have hb2 := sl_lo hbs (by omega) hLL
                      refine WO_ent rfl rfl (rn_call (by kernel_rfl) rfl) (page06 a.b qa a.b.length ca w107 hb2) ?_
                      rintro _ w113 ⟨rfl, hb113⟩
                      have hS907 := hS906.add0 hb113
                      refine ⟨hS907, ?_⟩
                      replace hLL := hLL.new hb113
                      replace hT := hT.new hb113
                      replace hr18 := hr18.new hb113
                      replace hr21 := hr21.new hb113
                      replace hr22 := hr22.new hb113
                      refine WA_one 13 (by kernel_rfl) ?_
                      have hsp := sPut hT hiQ a.n hXl
                      rw [hsf.rdE a.n] at hsp
                      refine WO_ent rfl rfl (rn_call (by kernel_rfl) rfl) (hsp) ?_
                      rintro _ w114 ⟨rfl, hT, hb114⟩
                      have hS908 := hS907.addLL hn904 hb114
                      refine ⟨hS908, ?_⟩
                      replace hLL := hLL.ll hb114 (by first | (intro b hb; exact hb) | (intro b hb; simp [hb]; done) | simp)
                      replace hr18 := hr18.kpd hb114.kp (by first | (refine notLL ?_; left; omega) | (refine notLL ?_; right; simp; done) | (intro b o e; cases e; first | (refine notLL ?_; left; omega) | (refine notLL ?_; right; simp; done) | (refine notLL ?_; right; simp [*]; done)) | (intro b hb; refine notLL ?_; left; omega) | (intro b hb e; cases e; exact notLL (by right; simp [*]) hb))
                      replace hr21 := hr21.kpd hb114.kp (by first | (refine notLL ?_; left; omega) | (refine notLL ?_; right; simp; done) | (intro b o e; cases e; first | (refine notLL ?_; left; omega) | (refine notLL ?_; right; simp; done) | (refine notLL ?_; right; simp [*]; done)) | (intro b hb; refine notLL ?_; left; omega) | (intro b hb e; cases e; exact notLL (by right; simp [*]) hb))
                      replace hr22 := hr22.kpd hb114.kp (by first | (refine notLL ?_; left; omega) | (refine notLL ?_; right; simp; done) | (intro b o e; cases e; first | (refine notLL ?_; left; omega) | (refine notLL ?_; right; simp; done) | (refine notLL ?_; right; simp [*]; done)) | (intro b hb; refine notLL ?_; left; omega) | (intro b hb e; cases e; exact notLL (by right; simp [*]) hb))
                      refine WA_take 14 (by kernel_rfl) rfl (fun _ _ => rn_assign) ?_
                      refine WA_take 15 (by kernel_rfl) rfl (fun _ _ => rn_assign) ?_
                      refine WA_done (by kernel_rfl) ?_
                      refine blockN ?_
                      refine loopN ⟨(rdE P a.n, zeroP, (pP P a.n (pageB a.b), pP Q a.n (pageB a.b)), V), ⟨rfl, rfl, rfl, rfl, rfl, rfl, rfl, rfl, rfl, rfl, rfl⟩, (hiP.pP _ hXl).up (by omega), (hiQ.pP _ hXl).up (by omega), hsf.pP hiP hiQ _ _, (pP_fr P _ _).trans hf1, (pP_fr Q _ _).trans hf2, zeroP_len, hr21, hr22, hT, hLL⟩
                    ·
                      refine W_seq ?_
                      refine W_region ?_
                      refine WR_val rfl (rn_eql rfl rfl) ?_
                      refine WR_val rfl (rn_assign) ?_
                      refine WR_nil ?_
                      refine thenN ?_
                      refine W_ifp rfl (fun k3 => ?_) (fun k3 => ?_)
                      ·
                        have hcP := hiP.commit (by omega) hPn
                        have hcQ := hiQ.commit (by omega) (by rw [hsf.n]; exact hPn)
                        rw [hsf.commitV V] at hcQ
                        refine W_region ?_
                        refine WR_val rfl (rn_move) ?_
                        refine WR_ent rfl (rn_call (by kernel_rfl) rfl) (zCommit hT hiP) ?_
                        rintro _ w118 ⟨rfl, hT, hb118⟩
                        replace hLL := hLL.ll hb118 (by first | (intro b hb; exact hb) | (intro b hb; simp [hb]; done) | simp)
                        replace hr18 := hr18.kpd hb118.kp (by first | (refine notLL ?_; left; omega) | (refine notLL ?_; right; simp; done) | (intro b o e; cases e; first | (refine notLL ?_; left; omega) | (refine notLL ?_; right; simp; done) | (refine notLL ?_; right; simp [*]; done)) | (intro b hb; refine notLL ?_; left; omega) | (intro b hb e; cases e; exact notLL (by right; simp [*]) hb))
                        replace hr21 := hr21.kpd hb118.kp (by first | (refine notLL ?_; left; omega) | (refine notLL ?_; right; simp; done) | (intro b o e; cases e; first | (refine notLL ?_; left; omega) | (refine notLL ?_; right; simp; done) | (refine notLL ?_; right; simp [*]; done)) | (intro b hb; refine notLL ?_; left; omega) | (intro b hb e; cases e; exact notLL (by right; simp [*]) hb))
                        replace hr22 := hr22.kpd hb118.kp (by first | (refine notLL ?_; left; omega) | (refine notLL ?_; right; simp; done) | (intro b o e; cases e; first | (refine notLL ?_; left; omega) | (refine notLL ?_; right; simp; done) | (refine notLL ?_; right; simp [*]; done)) | (intro b hb; refine notLL ?_; left; omega) | (intro b hb e; cases e; exact notLL (by right; simp [*]) hb))
                        refine WR_val rfl (rn_move) ?_
                        have hsc := sCommit hT hiQ
                        rw [hsf.commit.1] at hsc
                        refine WR_ent rfl (rn_call (by kernel_rfl) rfl) (hsc) ?_
                        rintro _ w120 ⟨rfl, hT, hb120⟩
                        replace hLL := hLL.ll hb120 (by first | (intro b hb; exact hb) | (intro b hb; simp [hb]; done) | simp)
                        replace hr18 := hr18.kpd hb120.kp (by first | (refine notLL ?_; left; omega) | (refine notLL ?_; right; simp; done) | (intro b o e; cases e; first | (refine notLL ?_; left; omega) | (refine notLL ?_; right; simp; done) | (refine notLL ?_; right; simp [*]; done)) | (intro b hb; refine notLL ?_; left; omega) | (intro b hb e; cases e; exact notLL (by right; simp [*]) hb))
                        replace hr21 := hr21.kpd hb120.kp (by first | (refine notLL ?_; left; omega) | (refine notLL ?_; right; simp; done) | (intro b o e; cases e; first | (refine notLL ?_; left; omega) | (refine notLL ?_; right; simp; done) | (refine notLL ?_; right; simp [*]; done)) | (intro b hb; refine notLL ?_; left; omega) | (intro b hb e; cases e; exact notLL (by right; simp [*]) hb))
                        replace hr22 := hr22.kpd hb120.kp (by first | (refine notLL ?_; left; omega) | (refine notLL ?_; right; simp; done) | (intro b o e; cases e; first | (refine notLL ?_; left; omega) | (refine notLL ?_; right; simp; done) | (refine notLL ?_; right; simp [*]; done)) | (intro b hb; refine notLL ?_; left; omega) | (intro b hb e; cases e; exact notLL (by right; simp [*]) hb))
                        refine WR_val rfl (rn_assign) ?_
                        refine WR_val rfl (rn_assign) ?_
                        refine WR_nil ?_
                        refine blockN ?_
                        refine loopN ⟨((commitP P).1, zeroP, ((commitP P).2, (commitP Q).2), commitV P V), ⟨rfl, rfl, rfl, rfl, rfl, rfl, rfl, rfl, rfl, rfl, rfl⟩, hcP.1.up (by omega), hcQ.1.up (by omega), hsf.commit.2, hcP.2.2.1.trans hf1, hcQ.2.2.1.trans hf2, zeroP_len, hr21, hr22, hT, hLL⟩
                      ·
                        refine W_seq ?_
                        refine W_region ?_
                        refine WR_val rfl (rn_eql rfl rfl) ?_
                        refine WR_val rfl (rn_assign) ?_
                        refine WR_nil ?_
                        refine thenN ?_
                        refine W_ifp rfl (fun k4 => ?_) (fun k4 => ?_)
                        ·
                          refine W_region ?_
                          refine WR_val rfl (rn_move) ?_
                          refine WR_ent rfl (rn_call (by kernel_rfl) rfl) (zAbort hT hiP) ?_
                          rintro _ w124 ⟨rfl, hT, hb124⟩
                          replace hLL := hLL.ll hb124 (by first | (intro b hb; exact hb) | (intro b hb; simp [hb]; done) | simp)
                          replace hr18 := hr18.kpd hb124.kp (by first | (refine notLL ?_; left; omega) | (refine notLL ?_; right; simp; done) | (intro b o e; cases e; first | (refine notLL ?_; left; omega) | (refine notLL ?_; right; simp; done) | (refine notLL ?_; right; simp [*]; done)) | (intro b hb; refine notLL ?_; left; omega) | (intro b hb e; cases e; exact notLL (by right; simp [*]) hb))
                          replace hr21 := hr21.kpd hb124.kp (by first | (refine notLL ?_; left; omega) | (refine notLL ?_; right; simp; done) | (intro b o e; cases e; first | (refine notLL ?_; left; omega) | (refine notLL ?_; right; simp; done) | (refine notLL ?_; right; simp [*]; done)) | (intro b hb; refine notLL ?_; left; omega) | (intro b hb e; cases e; exact notLL (by right; simp [*]) hb))
                          replace hr22 := hr22.kpd hb124.kp (by first | (refine notLL ?_; left; omega) | (refine notLL ?_; right; simp; done) | (intro b o e; cases e; first | (refine notLL ?_; left; omega) | (refine notLL ?_; right; simp; done) | (refine notLL ?_; right; simp [*]; done)) | (intro b hb; refine notLL ?_; left; omega) | (intro b hb e; cases e; exact notLL (by right; simp [*]) hb))
                          refine WR_val rfl (rn_move) ?_
                          refine WR_ent rfl (rn_call (by kernel_rfl) rfl) (sAbort hT hiQ) ?_
                          rintro _ w126 ⟨rfl, hT, hb126⟩
                          replace hLL := hLL.ll hb126 (by first | (intro b hb; exact hb) | (intro b hb; simp [hb]; done) | simp)
                          replace hr18 := hr18.kpd hb126.kp (by first | (refine notLL ?_; left; omega) | (refine notLL ?_; right; simp; done) | (intro b o e; cases e; first | (refine notLL ?_; left; omega) | (refine notLL ?_; right; simp; done) | (refine notLL ?_; right; simp [*]; done)) | (intro b hb; refine notLL ?_; left; omega) | (intro b hb e; cases e; exact notLL (by right; simp [*]) hb))
                          replace hr21 := hr21.kpd hb126.kp (by first | (refine notLL ?_; left; omega) | (refine notLL ?_; right; simp; done) | (intro b o e; cases e; first | (refine notLL ?_; left; omega) | (refine notLL ?_; right; simp; done) | (refine notLL ?_; right; simp [*]; done)) | (intro b hb; refine notLL ?_; left; omega) | (intro b hb e; cases e; exact notLL (by right; simp [*]) hb))
                          replace hr22 := hr22.kpd hb126.kp (by first | (refine notLL ?_; left; omega) | (refine notLL ?_; right; simp; done) | (intro b o e; cases e; first | (refine notLL ?_; left; omega) | (refine notLL ?_; right; simp; done) | (refine notLL ?_; right; simp [*]; done)) | (intro b hb; refine notLL ?_; left; omega) | (intro b hb e; cases e; exact notLL (by right; simp [*]) hb))
                          refine WR_val rfl (rn_assign) ?_
                          refine WR_val rfl (rn_assign) ?_
                          refine WR_nil ?_
                          refine blockN ?_
                          refine loopN ⟨(0, zeroP, ({ P with ch := noP }, { Q with ch := noP }), V), ⟨rfl, rfl, rfl, rfl, rfl, rfl, rfl, rfl, rfl, rfl, rfl⟩, (hiP.setCh noP (fun i b h => nomatch h)).up (by omega), (hiQ.setCh noP (fun i b h => nomatch h)).up (by omega), hsf.setCh noP, hf1, hf2, zeroP_len, hr21, hr22, hT, hLL⟩
                        ·
                          refine W_seq ?_
                          refine W_region ?_
                          refine WR_val rfl (rn_eql rfl rfl) ?_
                          refine WR_val rfl (rn_assign) ?_
                          refine WR_nil ?_
                          refine thenN ?_
                          refine W_ifp rfl (fun k5 => ?_) (fun k5 => ?_)
                          ·
                            have hcP := hiP.check (by omega)
                            have hcQ := hiQ.check (by omega)
                            refine W_region ?_
                            refine WR_val rfl (rn_move) ?_
                            refine WR_ent rfl (rn_call (by kernel_rfl) rfl) (zCheck hT hiP) ?_
                            rintro _ w130 ⟨rfl, hT, hb130⟩
                            replace hLL := hLL.ll hb130 (by first | (intro b hb; exact hb) | (intro b hb; simp [hb]; done) | simp)
                            replace hr18 := hr18.kpd hb130.kp (by first | (refine notLL ?_; left; omega) | (refine notLL ?_; right; simp; done) | (intro b o e; cases e; first | (refine notLL ?_; left; omega) | (refine notLL ?_; right; simp; done) | (refine notLL ?_; right; simp [*]; done)) | (intro b hb; refine notLL ?_; left; omega) | (intro b hb e; cases e; exact notLL (by right; simp [*]) hb))
                            replace hr21 := hr21.kpd hb130.kp (by first | (refine notLL ?_; left; omega) | (refine notLL ?_; right; simp; done) | (intro b o e; cases e; first | (refine notLL ?_; left; omega) | (refine notLL ?_; right; simp; done) | (refine notLL ?_; right; simp [*]; done)) | (intro b hb; refine notLL ?_; left; omega) | (intro b hb e; cases e; exact notLL (by right; simp [*]) hb))
                            replace hr22 := hr22.kpd hb130.kp (by first | (refine notLL ?_; left; omega) | (refine notLL ?_; right; simp; done) | (intro b o e; cases e; first | (refine notLL ?_; left; omega) | (refine notLL ?_; right; simp; done) | (refine notLL ?_; right; simp [*]; done)) | (intro b hb; refine notLL ?_; left; omega) | (intro b hb e; cases e; exact notLL (by right; simp [*]) hb))
                            refine WR_val rfl (rn_move) ?_
                            have hsc := sCheck hT hiQ
                            rw [hsf.check.1] at hsc
                            refine WR_ent rfl (rn_call (by kernel_rfl) rfl) (hsc) ?_
                            rintro _ w132 ⟨rfl, hT, hb132⟩
                            replace hLL := hLL.ll hb132 (by first | (intro b hb; exact hb) | (intro b hb; simp [hb]; done) | simp)
                            replace hr18 := hr18.kpd hb132.kp (by first | (refine notLL ?_; left; omega) | (refine notLL ?_; right; simp; done) | (intro b o e; cases e; first | (refine notLL ?_; left; omega) | (refine notLL ?_; right; simp; done) | (refine notLL ?_; right; simp [*]; done)) | (intro b hb; refine notLL ?_; left; omega) | (intro b hb e; cases e; exact notLL (by right; simp [*]) hb))
                            replace hr21 := hr21.kpd hb132.kp (by first | (refine notLL ?_; left; omega) | (refine notLL ?_; right; simp; done) | (intro b o e; cases e; first | (refine notLL ?_; left; omega) | (refine notLL ?_; right; simp; done) | (refine notLL ?_; right; simp [*]; done)) | (intro b hb; refine notLL ?_; left; omega) | (intro b hb e; cases e; exact notLL (by right; simp [*]) hb))
                            replace hr22 := hr22.kpd hb132.kp (by first | (refine notLL ?_; left; omega) | (refine notLL ?_; right; simp; done) | (intro b o e; cases e; first | (refine notLL ?_; left; omega) | (refine notLL ?_; right; simp; done) | (refine notLL ?_; right; simp [*]; done)) | (intro b hb; refine notLL ?_; left; omega) | (intro b hb e; cases e; exact notLL (by right; simp [*]) hb))
                            refine WR_val rfl (rn_assign) ?_
                            refine WR_val rfl (rn_assign) ?_
                            refine WR_nil ?_
                            refine blockN ?_
                            refine loopN ⟨((checkR P).1, zeroP, ((checkR P).2, (checkR Q).2), V), ⟨rfl, rfl, rfl, rfl, rfl, rfl, rfl, rfl, rfl, rfl, rfl⟩, hcP.1.up (by omega), hcQ.1.up (by omega), hsf.check.2, hcP.2.2.trans hf1, hcQ.2.2.trans hf2, zeroP_len, hr21, hr22, hT, hLL⟩
                          ·
                            refine W_skip ?_
                            refine blockN ?_
                            refine loopN ⟨(0, zeroP, (P, Q), V), ⟨rfl, rfl, rfl, rfl, rfl, rfl, rfl, rfl, rfl, rfl, rfl⟩, hiP.up (by omega), hiQ.up (by omega), hsf, hf1, hf2, zeroP_len, hr21, hr22, hT, hLL⟩
                ·
                  clear hT hLL hr21 hr22 hiP hiQ hsf hf1 hf2
                  rintro ⟨e, X, ⟨P1, Q1⟩, V1⟩ f2 w2 ⟨hiP, hiQ, hsf, hf1, hf2, hXl2, hr21, hr22, hT, hLL⟩
                  dsimp only at hiP hiQ hsf hf1 hf2 hXl2 hr21 hr22 hT hLL
                  have hXb : (bv X).length = 512 := by rw [bv_length]; exact hXl2
                  have hcl1 : ((numsP P1.cl).length : Int) ≤ o1 := by have h1 := hiP.ok.cll; unfold numsP; rw [List.length_map]; omega
                  have hcl2 : ((numsP Q1.cl).length : Int) ≤ o2 := by have h1 := hiQ.ok.cll; unfold numsP; rw [List.length_map]; omega
                  have hsc := fun w' (h' : Two (PZ q P1) (PZ q2 Q1) w.heap.size [g22, g21, g18] w') => zChanged h'.swap
                  have hsd := fun w' (h' : Two (PZ q P1) (PZ q2 Q1) w.heap.size [g22, g21, g18] w') => zDirty h'.swap
                  have hsr := fun w' (h' : Two (PZ q P1) (PZ q2 Q1) w.heap.size [g22, g21, g18] w') => zRoom h'.swap hiQ
                  rw [hsf.ch, hsf.n] at hsc
                  rw [hsf.di, hsf.n] at hsd
                  rw [hsf.G] at hsr
                  have hobt : ∃ ks, keysP P1.ch P1.n = ks := ⟨_, rfl⟩
                  obtain ⟨ks, hks⟩ := hobt
                  have hobt : ∃ ds, keysP P1.di P1.n = ds := ⟨_, rfl⟩
                  obtain ⟨ds, hds⟩ := hobt
                  have hzc := fun w' (h' : Two (PZ q P1) (PZ q2 Q1) w.heap.size [g22, g21, g18] w') => zChanged h'
                  have hzd := fun w' (h' : Two (PZ q P1) (PZ q2 Q1) w.heap.size [g22, g21, g18] w') => zDirty h'
                  rw [hks] at hsc hzc
                  rw [hds] at hsd hzd
                  refine W_seq ?_
                  refine W_region ?_
                  refine WR_val rfl (rn_move) ?_
                  refine WR_val rfl (rn_move) ?_
                  refine WR_val rfl (rn_neq rfl rfl) ?_
                  refine WR_val rfl (rn_move) ?_
                  refine WR_fp 136 rfl ((by simp)) ?_
                  refine WR_yes rfl ?_
                  refine WR_val rfl (rn_load rfl (Ld.rowA (k := 512) hr21 (by kernel_rfl) (by kernel_rfl) (by first | (simp; done) | (simp [bv_length, *]; done) | assumption))) ?_
                  refine WR_yes rfl ?_
                  refine WR_val rfl (rn_load rfl (Ld.rowA (k := 512) hr22 (by kernel_rfl) (by kernel_rfl) (by first | (simp; done) | (simp [bv_length, *]; done) | assumption))) ?_
                  refine WR_yes rfl ?_
                  refine WR_val rfl (rn_neqA (n := 512) (by kernel_rfl) rfl rfl hXl2 hXl2) ?_
                  refine WR_val rfl (rn_pick_f rfl) ?_
                  refine WR_val rfl (rn_move) ?_
                  refine WR_fn 141 rfl ((by simp)) ?_
                  refine WR_yes rfl ?_
                  refine WR_val rfl (rn_move) ?_
                  refine WR_yes rfl ?_
                  refine WR_ent rfl (rn_call (by kernel_rfl) rfl) (hzc w2 hT) ?_
                  rintro _ w143 ⟨⟨p1, c1, rfl, hs1, _⟩, hb143⟩
                  replace hLL := hLL.new hb143
                  replace hT := hT.new hb143
                  replace hr21 := hr21.new hb143
                  replace hr22 := hr22.new hb143
                  refine WR_yes rfl ?_
                  refine WR_val rfl (rn_move) ?_
                  refine WR_yes rfl ?_
                  refine WR_ent rfl (rn_call (by kernel_rfl) rfl) (hsc w143 hT) ?_
                  rintro _ w145 ⟨⟨p2, c2, rfl, hs2, _⟩, hb145⟩
                  replace hLL := hLL.new hb145
                  replace hT := hT.new hb145
                  replace hr21 := hr21.new hb145
                  replace hr22 := hr22.new hb145
                  replace hs1 := hs1.new hb145
                  refine WR_yes rfl ?_
                  have hsm := same06 ks ks p1 p2 c1 c2 w145 hs1 hs2
                  refine WR_ent rfl (rn_call (by kernel_rfl) rfl) (hsm) ?_
                  rintro _ w146 ⟨rfl, hb146⟩
                  replace hLL := hLL.new hb146
                  replace hT := hT.new hb146
                  replace hr21 := hr21.new hb146
                  replace hr22 := hr22.new hb146
                  replace hs1 := hs1.new hb146
                  replace hs2 := hs2.new hb146
                  refine WR_yes rfl ?_
                  refine WR_val rfl (rn_not rfl) ?_
                  refine WR_val rfl (rn_pick_f rfl) ?_
                  refine WR_val rfl (rn_move) ?_
                  refine WR_fnb 149 rfl ((by simp)) ?_
                  refine WR_yes rfl ?_
                  refine WR_val rfl (rn_move) ?_
                  refine WR_yes rfl ?_
                  refine WR_ent rfl (rn_call (by kernel_rfl) rfl) (hzd w146 hT) ?_
                  rintro _ w151 ⟨⟨p3, c3, rfl, hs3, _⟩, hb151⟩
                  replace hLL := hLL.new hb151
                  replace hT := hT.new hb151
                  replace hr21 := hr21.new hb151
                  replace hr22 := hr22.new hb151
                  refine WR_yes rfl ?_
                  refine WR_val rfl (rn_move) ?_
                  refine WR_yes rfl ?_
                  refine WR_ent rfl (rn_call (by kernel_rfl) rfl) (hsd w151 hT) ?_
                  rintro _ w153 ⟨⟨p4, c4, rfl, hs4, _⟩, hb153⟩
                  replace hLL := hLL.new hb153
                  replace hT := hT.new hb153
                  replace hr21 := hr21.new hb153
                  replace hr22 := hr22.new hb153
                  replace hs3 := hs3.new hb153
                  refine WR_yes rfl ?_
                  have hsm2 := same06 ds ds p3 p4 c3 c4 w153 hs3 hs4
                  refine WR_ent rfl (rn_call (by kernel_rfl) rfl) (hsm2) ?_
                  rintro _ w154 ⟨rfl, hb154⟩
                  replace hLL := hLL.new hb154
                  replace hT := hT.new hb154
                  replace hr21 := hr21.new hb154
                  replace hr22 := hr22.new hb154
                  replace hs3 := hs3.new hb154
                  replace hs4 := hs4.new hb154
                  refine WR_yes rfl ?_
                  refine WR_val rfl (rn_not rfl) ?_
                  refine WR_val rfl (rn_pick_f rfl) ?_
                  refine WR_val rfl (rn_move) ?_
                  refine WR_fnb 157 rfl ((by simp)) ?_
                  refine WR_yes rfl ?_
                  refine WR_val rfl (rn_move) ?_
                  refine WR_yes rfl ?_
                  refine WR_ent rfl (rn_call (by kernel_rfl) rfl) (zRoom hT hiP) ?_
                  rintro _ w159 ⟨rfl, hb159⟩
                  replace hLL := hLL.new hb159
                  replace hT := hT.new hb159
                  replace hr21 := hr21.new hb159
                  replace hr22 := hr22.new hb159
                  replace hs3 := hs3.new hb159
                  replace hs4 := hs4.new hb159
                  refine WR_yes rfl ?_
                  refine WR_val rfl (rn_move) ?_
                  refine WR_yes rfl ?_
                  refine WR_ent rfl (rn_call (by kernel_rfl) rfl) (hsr w159 hT) ?_
                  rintro _ w161 ⟨rfl, hb161⟩
                  replace hLL := hLL.new hb161
                  replace hT := hT.new hb161
                  replace hr21 := hr21.new hb161
                  replace hr22 := hr22.new hb161
                  replace hs3 := hs3.new hb161
                  replace hs4 := hs4.new hb161
                  refine WR_yes rfl ?_
                  refine WR_val rfl (rn_neq rfl rfl) ?_
                  refine WR_val rfl (rn_pick_f rfl) ?_
                  refine WR_val rfl (rn_move) ?_
                  refine WR_fp 164 rfl ((by simp)) ?_
                  refine WR_yes rfl ?_
                  refine WR_val rfl (rn_move) ?_
                  refine WR_yes rfl ?_
                  refine WR_ent rfl (rn_call (by kernel_rfl) rfl) (zClean hT hiP) ?_
                  rintro _ w166 ⟨⟨p5, c5, rfl, hs5, _⟩, hb166⟩
                  replace hLL := hLL.new hb166
                  replace hT := hT.new hb166
                  replace hr21 := hr21.new hb166
                  replace hr22 := hr22.new hb166
                  replace hs3 := hs3.new hb166
                  replace hs4 := hs4.new hb166
                  refine WR_yes rfl ?_
                  refine WR_val rfl (rn_lenSl (e := 3) (sz := 1) (by kernel_rfl) rfl rfl) ?_
                  refine WR_yes rfl ?_
                  refine WR_val rfl (rn_move) ?_
                  refine WR_yes rfl ?_
                  refine WR_val rfl (rn_gtr rfl rfl) ?_
                  refine WR_val rfl (rn_pick_f rfl) ?_
                  refine WR_val rfl (rn_move) ?_
                  refine WR_fp 171 rfl ((by omega)) ?_
                  refine WR_yes rfl ?_
                  refine WR_val rfl (rn_move) ?_
                  refine WR_yes rfl ?_
                  refine WR_ent rfl (rn_call (by kernel_rfl) rfl) (zClean hT.swap hiQ) ?_
                  rintro _ w173 ⟨⟨p6, c6, rfl, hs6, _⟩, hb173⟩
                  replace hLL := hLL.new hb173
                  replace hT := hT.new hb173
                  replace hr21 := hr21.new hb173
                  replace hr22 := hr22.new hb173
                  replace hs3 := hs3.new hb173
                  replace hs4 := hs4.new hb173
                  refine WR_yes rfl ?_
                  refine WR_val rfl (rn_lenSl (e := 3) (sz := 1) (by kernel_rfl) rfl rfl) ?_
                  refine WR_yes rfl ?_
                  refine WR_val rfl (rn_move) ?_
                  refine WR_yes rfl ?_
                  refine WR_val rfl (rn_gtr rfl rfl) ?_
                  refine WR_val rfl (rn_pick_f rfl) ?_
                  refine WR_nil ?_
                  refine thenN ?_
                  refine W_fp rfl ((by omega)) ?_
                  refine W_skip ?_
                  refine blockN ?_
                  refine thenN ?_
                  refine W_region ?_
                  refine WR_val rfl (rn_move) ?_
                  refine WR_val rfl (rn_add rfl rfl (Coup.w64 (by omega))) ?_
                  refine WR_val rfl (rn_assign) ?_
                  refine WR_nil ?_
                  refine loopN ⟨(i + 1, (P1, Q1), V1), by omega, ⟨by go_num, rfl, rfl, rfl, rfl, rfl, rfl⟩, by omega, hiP.up (by omega), hiQ.up (by omega), hsf, hf1, hf2, hT.weak (fun b hb => nomatch hb), hLL⟩
              ·
                refine W_exit ?_
                refine thenX ?_
                refine loopX ?_
                refine blockX ?_
                refine thenN ?_
                refine W_seq ?_
                refine W_region ?_
                refine WR_ent rfl (rn_call (by kernel_rfl) rfl) (known06 wr) ?_
                rintro _ w178 ⟨rfl, hb178⟩
                replace hLL := hLL.new hb178
                replace hT := hT.new hb178
                refine WR_val rfl (rn_assign) ?_
                refine WR_nil ?_
                refine thenN ?_
                refine W_ret ?_
                refine ret_ret [_] ⟨rfl, trivial⟩ ?_
                exact ⟨rfl, hLL⟩
end Go.Proofs.YtielfpkjoidomaaGreat
