import Derived.Test.YtielfpkjoidomaaGreatM5
import Derived.Test.YtielfpkjoidomaaGreatM2
namespace Go.Proofs.YtielfpkjoidomaaGreat
open Go Go.RowKit Coup
def inP (P : Pl) (n : Int) : Prop := 0 ≤ n ∧ n < (P.n : Int)
instance (P : Pl) (n : Int) : Decidable (inP P n) := by unfold inP; exact inferInstance
def rdE (P : Pl) (n : Int) : Int := if inP P n then 0 else 2
def gX (P : Pl) (V : Nat → Pg) (n : Int) : Pg := if inP P n then (P.ch n.toNat).getD (V n.toNat) else zeroP
def gP (P : Pl) (n : Int) : Pl := if inP P n then getP P n.toNat else P
def pP (P : Pl) (n : Int) (X : Pg) : Pl := if inP P n then putP P n.toNat X else P
theorem zeroP_bv : bv zeroP = zP := by rw [zeroP, bv, List.map_replicate]; rfl
theorem rd_is {P : Pl} (h : P.dead = false) (n : Int) : readyE P n = rdE P n := by
  unfold readyE rdE inP
  rw [h, if_neg (by simp)]
namespace PlI
variable {P : Pl} {V : Nat → Pg} {k : Nat}
theorem gP (h : PlI P V k) (n : Int) : PlI (gP P n) V k := by
  unfold Go.Proofs.YtielfpkjoidomaaGreat.gP
  split
  · rename_i hn; exact h.getP (by unfold inP at hn; omega)
  · exact h
theorem pP (h : PlI P V k) (n : Int) {X : Pg} (hX : X.length = 512) : PlI (pP P n X) V k := by
  unfold Go.Proofs.YtielfpkjoidomaaGreat.pP
  split
  · rename_i hn; exact h.putP (by unfold inP at hn; omega) hX
  · exact h
end PlI
section
variable {Y : World → List Nat → Prop} [Thing Y] {q lo : Nat} {L : List Nat} {P : Pl} {V : Nat → Pg} {k : Nat} {w : World}
end
def commitV (P : Pl) (V : Nat → Pg) : Nat → Pg := if (commitP P).1 = 0 then viewC P V else V
theorem PlI.check {P : Pl} {V : Nat → Pg} {k : Nat} (h : PlI P V k) (hk : k ≤ 1000000) : PlI (checkR P).2 V (k + 1) ∧ (checkR P).2.n = P.n ∧ (checkR P).2.fr = P.fr := by
  unfold checkR
  split
  · obtain ⟨s1, s2, s3, s4, s5, s6, s7, s8⟩ := h.settle hk
    have e : keepR (settleR P).1 (settleR P).2 = (settleR P).2 := by
      unfold keepR
      rw [s1, s2.de]
      have := s2.de
      show ({ (settleR P).2 with dead := false } : Pl) = _
      rw [← this]
    dsimp only
    rw [e]
    exact ⟨s2, s6, s7⟩
  · exact ⟨h.up (by omega), rfl, rfl⟩
theorem view_none {P : Pl} {V : Nat → Pg} (h : (recP P).length = 0) : viewC P V = V := by
  funext n
  unfold viewC
  split
  · rename_i hn
    cases hc : P.ch n with
    | none => rfl
    | some x =>
      have hm : (⟨(n : Int), x⟩ : Ch) ∈ recP P := List.mem_map.2 ⟨(n, x), prs_in hc (Nat.zero_le _) (by omega), rfl⟩
      rw [List.eq_nil_of_length_eq_zero h] at hm
      cases hm
  · rfl
theorem PlI.commit {P : Pl} {V : Nat → Pg} {k : Nat} (h : PlI P V k) (hk : k ≤ 900000) (hn : P.n ≤ 2048) : PlI (commitP P).2 (commitV P V) (k + 1) ∧ (commitP P).2.n = P.n ∧ (commitP P).2.fr = P.fr ∧
    ((recP P).length ≤ 60 → needW ((recP P).length : Int) ≤ (P.G.size : Int) → (commitP P).1 = 0) ∧ ((commitP P).1 = 0 → 0 < (recP P).length → (commitP P).2.ch = noP) := by
  unfold commitV
  by_cases h0 : (recP P).length = 0
  · have e : commitP P = (0, P) := by unfold commitP; rw [if_pos h0]
    rw [e, if_pos rfl, view_none h0]
    exact ⟨h.up (by omega), rfl, rfl, fun _ _ => rfl, fun _ h1 => by omega⟩
  by_cases h60 : 60 < (recP P).length
  · have e : commitP P = (3, P) := by unfold commitP; rw [if_neg h0, if_pos h60]
    rw [e, if_neg (by simp)]
    exact ⟨h.up (by omega), rfl, rfl, fun h1 _ => by omega, fun h1 => by simp at h1⟩
  by_cases hsz : (P.G.size : Int) < needW ((recP P).length : Int)
  · have e : commitP P = (8, P) := by unfold commitP; rw [if_neg h0, if_neg h60, if_pos hsz]
    rw [e, if_neg (by simp)]
    exact ⟨h.up (by omega), rfl, rfl, fun _ h1 => by omega, fun h1 => by simp at h1⟩
  have hroom : (roomR P).1 = 0 ∧ PlI (roomR P).2 V (k + 1) ∧ recP (roomR P).2 = recP P ∧ needW ((recP P).length : Int) ≤ (((roomR P).2.G.size - (roomR P).2.G.at_ : Nat) : Int) ∧ (roomR P).2.ch = P.ch ∧ (roomR P).2.n = P.n ∧ (roomR P).2.fr = P.fr := by
    unfold roomR
    split
    · obtain ⟨s1, s2, s3, s4, s5, s6, s7, s8⟩ := h.settle (by omega)
      refine ⟨s1, s2, by unfold recP; rw [s5, s6], ?_, s5, s6, s7⟩
      rw [s4]
      show _ ≤ ((P.G.size - 0 : Nat) : Int)
      omega
    · rename_i hr
      exact ⟨rfl, h.up (by omega), rfl, Int.not_lt.1 hr, rfl, rfl, rfl⟩
  obtain ⟨r1, r2, r3, r4, r5, r6, r7⟩ := hroom
  have hck := commit_keep r2 (by omega) (by rw [r6]; exact hn) (by rw [r3]; exact h0) (by rw [r3]; exact h60) (by rw [r3]; exact r4)
  rw [r3] at hck
  obtain ⟨c1, c2, c3, c4, c5, c6⟩ := hck
  have e : commitP P = (0, { doneP (putC (roomR P).2 (recP P)) (recP P) with ch := noP }) := by
    unfold commitP
    rw [if_neg h0, if_neg h60, if_neg hsz, if_pos r1, if_pos c1]
  have ev : viewC (roomR P).2 V = viewC P V := by unfold viewC; rw [r5, r6]
  rw [e, if_pos rfl, ← ev]
  obtain ⟨d1, d2, d3, d4, d5, d6, d7, d8⟩ := doneP_same (recP P) (putC (roomR P).2 (recP P))
  refine ⟨c2, ?_, ?_, fun _ _ => rfl, fun _ _ => rfl⟩
  · show (doneP _ _).n = P.n
    rw [d6, c6, r6]
  · show (doneP _ _).fr = P.fr
    rw [d3]; exact r7
structure SameF (P Q : Pl) : Prop where
  D : Q.D = P.D
  G : Q.G = P.G
  ch : Q.ch = P.ch
  di : Q.di = P.di
  de : Q.dead = P.dead
namespace SameF
variable {P Q : Pl}
theorem n (h : SameF P Q) : Q.n = P.n := by unfold Pl.n; rw [h.D, h.G]
theorem inP (h : SameF P Q) (m : Int) : inP Q m ↔ inP P m := by unfold Go.Proofs.YtielfpkjoidomaaGreat.inP; rw [h.n]
theorem rdE (h : SameF P Q) (m : Int) : rdE Q m = rdE P m := by
  unfold Go.Proofs.YtielfpkjoidomaaGreat.rdE
  by_cases hm : Go.Proofs.YtielfpkjoidomaaGreat.inP P m
  · rw [if_pos hm, if_pos ((h.inP m).2 hm)]
  · rw [if_neg hm, if_neg fun hc => hm ((h.inP m).1 hc)]
theorem gX (h : SameF P Q) (V : Nat → Pg) (m : Int) : gX Q V m = gX P V m := by
  unfold Go.Proofs.YtielfpkjoidomaaGreat.gX
  by_cases hm : Go.Proofs.YtielfpkjoidomaaGreat.inP P m
  · rw [if_pos hm, if_pos ((h.inP m).2 hm), h.ch]
  · rw [if_neg hm, if_neg fun hc => hm ((h.inP m).1 hc)]
theorem ask (P : Pl) (m : Nat) : SameF P (askP P m) := by
  obtain ⟨h1, h2, h3, h4, h5, h6, h7⟩ := askP_same P m
  exact ⟨h1, h2, h4, h5, h6⟩
theorem symm (h : SameF P Q) : SameF Q P := ⟨h.D.symm, h.G.symm, h.ch.symm, h.di.symm, h.de.symm⟩
theorem trans {R : Pl} (h : SameF P Q) (h2 : SameF Q R) : SameF P R := ⟨h2.D.trans h.D, h2.G.trans h.G, h2.ch.trans h.ch, h2.di.trans h.di, h2.de.trans h.de⟩
theorem get (P : Pl) (m : Int) : SameF P (gP P m) := by
  unfold Go.Proofs.YtielfpkjoidomaaGreat.gP getP
  split
  · split
    · exact ⟨rfl, rfl, rfl, rfl, rfl⟩
    · exact ask P _
  · exact ⟨rfl, rfl, rfl, rfl, rfl⟩
theorem gP (h : SameF P Q) (m : Int) : SameF (gP P m) (gP Q m) := (get P m).symm.trans (h.trans (get Q m))
theorem setCh (h : SameF P Q) (c : PgM) : SameF { P with ch := c } { Q with ch := c } := ⟨h.D, h.G, rfl, h.di, h.de⟩
theorem pP (h : SameF P Q) {V : Nat → Pg} {k : Nat} (hP : PlI P V k) (hQ : PlI Q V k) (m : Int) (X : Pg) : SameF (pP P m X) (pP Q m X) := by
  unfold Go.Proofs.YtielfpkjoidomaaGreat.pP
  by_cases hm : Go.Proofs.YtielfpkjoidomaaGreat.inP P m
  · rw [if_pos hm, if_pos ((h.inP m).2 hm)]
    unfold Go.Proofs.YtielfpkjoidomaaGreat.inP at hm
    have hn := h.n
    unfold putP
    rw [hP.ask (by omega), hQ.ask (by omega), h.ch]
    exact ((ask P _).symm.trans (h.trans (ask Q _))).setCh _
  · rw [if_neg hm, if_neg fun hc => hm ((h.inP m).1 hc)]; exact h
theorem settle (h : SameF P Q) : (settleR Q).1 = (settleR P).1 ∧ SameF (settleR P).2 (settleR Q).2 := by
  have hs : settleD Q = settleD P := by unfold settleD; rw [h.G, h.D, h.di, h.n]
  unfold settleR
  rw [hs, h.G]
  split
  · split
    · exact ⟨rfl, rfl, rfl, h.ch, by dsimp only; rw [h.di], h.de⟩
    · exact ⟨rfl, rfl, rfl, h.ch, h.di, h.de⟩
  · exact ⟨rfl, rfl, rfl, h.ch, h.di, h.de⟩
theorem keep (h : SameF P Q) (e : Int) : SameF (keepR e P) (keepR e Q) := ⟨h.D, h.G, h.ch, h.di, by unfold keepR; dsimp only; rw [h.de]⟩
theorem check (h : SameF P Q) : (checkR Q).1 = (checkR P).1 ∧ SameF (checkR P).2 (checkR Q).2 := by
  obtain ⟨s1, s2⟩ := h.settle
  unfold checkR
  rw [h.ch, h.n]
  split
  · rw [s1]; exact ⟨rfl, s2.keep _⟩
  · exact ⟨rfl, h⟩
theorem done : ∀ (R : Rec) {P Q : Pl}, SameF P Q → SameF (doneP P R) (doneP Q R)
  | [], P, Q, h => h
  | c :: R, P, Q, h => done R (P := { P with di := updP P.di c.num.toNat (some c.page), cl := without P.cl c.num }) (Q := { Q with di := updP Q.di c.num.toNat (some c.page), cl := without Q.cl c.num }) ⟨h.D, h.G, h.ch, by dsimp only; rw [h.di], h.de⟩
theorem rec_ (h : SameF P Q) : recP Q = recP P := by unfold recP; rw [h.ch, h.n]
theorem putC (h : SameF P Q) (R : Rec) : SameF (putC P R) (putC Q R) := by
  unfold Go.Proofs.YtielfpkjoidomaaGreat.putC
  rw [h.D, h.G]
  exact ⟨rfl, rfl, h.ch, h.di, h.de⟩
theorem commit (h : SameF P Q) : (commitP Q).1 = (commitP P).1 ∧ SameF (commitP P).2 (commitP Q).2 := by
  have hr : (roomR Q).1 = (roomR P).1 ∧ SameF (roomR P).2 (roomR Q).2 := by
    unfold roomR
    rw [h.rec_, h.G]
    split
    · exact h.settle
    · exact ⟨rfl, h⟩
  unfold commitP
  rw [h.rec_, h.G, hr.1, hr.2.D, hr.2.G]
  split
  · exact ⟨rfl, h⟩
  · split
    · exact ⟨rfl, h⟩
    · split
      · exact ⟨rfl, h⟩
      · split
        · split
          · exact ⟨rfl, (done (recP P) (hr.2.putC (recP P))).setCh noP⟩
          · exact ⟨rfl, (hr.2.putC (recP P)).keep _⟩
        · exact ⟨rfl, hr.2.keep _⟩
theorem commitV (h : SameF P Q) (V : Nat → Pg) : commitV Q V = commitV P V := by
  unfold Go.Proofs.YtielfpkjoidomaaGreat.commitV viewC
  rw [h.commit.1, h.n, h.ch]
end SameF
end Go.Proofs.YtielfpkjoidomaaGreat
namespace Go.Proofs.YtielfpkjoidomaaGreat
open Go Go.RowKit Coup
def kG : Lg := ⟨3, 3, 12, 0, 0, false⟩
def kG4 : Lg := ⟨3, 3, 12, 1, 6, false⟩
def kD1 : Dk := fmtD (newD 20) 12
def kD2 : Dk := saveD kD1 2 1
def kD3 : Dk := saveD kD2 3 3
def kD4 : Dk := (putW kD3 1 (rowW kG kR)).1
end Go.Proofs.YtielfpkjoidomaaGreat
namespace Go.Proofs.YtielfpkjoidomaaGreat
open Go Go.RowKit Coup
theorem half_app {P X : List UInt8} {i : Nat} (h : 64 * (i + 1) ≤ P.length) : halfAt (P ++ X) i = halfAt P i := by
  rw [halfAt, halfAt, List.drop_append_of_le_length (by omega), List.take_append_of_le_length (by rw [List.length_drop]; omega)]
theorem half_app2 {P X : List UInt8} {i k : Nat} (h : P.length = 64 * k) : halfAt (P ++ X) (k + i) = halfAt X i := by
  rw [halfAt, halfAt, show 64 * (k + i) = P.length + 64 * i by omega, ← List.drop_drop, List.drop_left' rfl]
theorem half_drop (X : List UInt8) (i k : Nat) : halfAt (X.drop (64 * k)) i = halfAt X (k + i) := by rw [halfAt, halfAt, List.drop_drop, ← Nat.mul_add]
theorem half_take {X : List UInt8} {i k : Nat} (h : i < k) : halfAt (X.take (64 * k)) i = halfAt X i := by
  rw [halfAt, halfAt, List.drop_take, List.take_take, Nat.min_eq_left (by omega)]
theorem halves_ext : ∀ (k : Nat) {A B : List UInt8}, A.length = 64 * k → B.length = 64 * k → (∀ i, i < k → halfAt A i = halfAt B i) → A = B
  | 0, A, B, ha, hb, _ => by rw [List.eq_nil_of_length_eq_zero (by omega : A.length = 0), List.eq_nil_of_length_eq_zero (by omega : B.length = 0)]
  | k + 1, A, B, ha, hb, h => by
    have h0 := h 0 (by omega)
    rw [halfAt, halfAt, Nat.mul_zero, List.drop_zero, List.drop_zero] at h0
    have ih := halves_ext k (A := A.drop 64) (B := B.drop 64) (by rw [List.length_drop]; omega) (by rw [List.length_drop]; omega) fun i hi => by
      have := h (1 + i) (by omega)
      rw [← half_drop, ← half_drop] at this
      exact this
    rw [← List.take_append_drop 64 A, ← List.take_append_drop 64 B, h0, ih]
def RowIm (c nn : Nat) (b P : List UInt8) : Prop := P.length = 128 * needN b.length ∧ ∀ i, i < manyN b.length → halfAt P i = halfB c nn i (manyN b.length) (pieceB b i)
theorem row_im (c nn : Nat) (b : List UInt8) : RowIm c nn b (rowB c nn b) := ⟨rowB_len c nn b, fun i hi => by
  have := row_half c nn b [] i hi
  rwa [List.append_nil] at this⟩
theorem told_im {c nn : Nat} {b P : List UInt8} (X : List UInt8) {n : Nat} (him : RowIm c nn b P) (hm : mayT c nn = true) (hb : b.length ≤ 32768) (hn : needN b.length ≤ n) (hl : (P ++ X).length = n * 128) : Told (P ++ X) n c nn b := by
  have hmb := may_bounds hm
  have hp := manyN_pos b.length
  have hmx := manyN_max hb
  have hrow : ∀ i, i < manyN b.length → halfAt (P ++ X) i = halfB c nn i (manyN b.length) (pieceB b i) := fun i hi => by
    rw [half_app (by rw [him.1]; unfold needN; omega)]; exact him.2 i hi
  have h0 := hrow 0 (by omega)
  obtain ⟨f1, f2, -, f4, -⟩ := halfB_fields c nn 0 (manyN b.length) (pieceB b 0)
  rw [← h0, Nat.mod_eq_of_lt (by omega)] at f1
  rw [← h0, Nat.mod_eq_of_lt (by omega)] at f2
  rw [← h0, Nat.mod_eq_of_lt (by omega)] at f4
  have hml : 64 * manyN b.length ≤ (P ++ X).length := by rw [hl]; unfold needN at hn; omega
  have hbod : bodies (P ++ X) (manyN b.length) = allB b := bodies_eq _ _ _ (allB_length b) fun i hi => by
    rw [hrow i hi, (halfB_fields c nn i _ _).2.2.2.2]; rfl
  have hK : joinK (P ++ X) (manyN b.length) = b.length := by
    rw [joinK, hbod, allB_take, numB_beB, Nat.mod_eq_of_lt (by omega)]
  have hJB : joinB (P ++ X) = b := by rw [joinB, f4, hK, hbod, allB_mid]
  refine ⟨?_, f1, f2, hJB⟩
  rw [← refIs_eq _ _ hl]
  have ht := tag_yes (h := halfAt (P ++ X) 0) (by rw [f1, f2]; exact hm)
  unfold refIs refOk
  rw [ht.1, ht.2, f1, f2, f4, hm, refK_eq _ _ hml hp, hK, hJB, decide_eq_true (by omega : 0 < n), decide_eq_true (by unfold needN at hn; omega : 1 ≤ manyN b.length ∧ manyN b.length ≤ 2 * n), decide_eq_true (by omega : b.length ≤ 32768 ∧ manyN b.length = manyN b.length)]
  simp only [Bool.true_and]
  refine List.all_eq_true.2 fun i hi => ?_
  have hi' := List.mem_range.1 hi
  rw [halvesL_get c nn b i hi', hrow i hi']
  simp
theorem rowsL_im {c nn : Nat} {b P X : List UInt8} {n f : Nat} (him : RowIm c nn b P) (hm : mayT c nn = true) (hb : b.length ≤ 32768) (hn : needN b.length ≤ n) (hl : (P ++ X).length = n * 128) :
    rowsL (f + 1) (P ++ X) n = ⟨c, nn, b⟩ :: rowsL f X (n - needN b.length) := by
  obtain ⟨t1, t2, t3, t4⟩ := told_im X him hm hb hn hl
  rw [rowsL, if_pos t1, t2, t3, t4, List.drop_left' him.1]
def tellP : Nat → List (Nat × Rec) → List UInt8 → Prop
  | _, [], P => P = []
  | k, x :: T, P => ∃ P1 P2, P = P1 ++ P2 ∧ RowIm x.1 k (recB x.2) P1 ∧ tellP (k + 1) T P2
theorem tellP_len : ∀ {k s c : Nat} {T : List (Nat × Rec)} {P : List UInt8}, okT s c T → tellP k T P → P.length = 128 * atT T
  | k, s, c, [], P, h, hp => by rw [show P = [] from hp]; rfl
  | k, s, c, x :: T, P, h, hp => by
    obtain ⟨P1, P2, rfl, h1, h2⟩ := hp
    obtain ⟨_, _, h3, _⟩ := h x (List.mem_cons_self ..)
    have ih := tellP_len (fun y hy => h y (List.mem_cons_of_mem _ hy)) h2
    rw [List.length_append, h1.1, recB_len h3, ih, atT_cons, Nat.mul_add]
theorem tellP_snoc : ∀ {k : Nat} {T : List (Nat × Rec)} {P Q : List UInt8} {c : Nat} {r : Rec}, tellP k T P → RowIm c (k + T.length) (recB r) Q → tellP k (T ++ [(c, r)]) (P ++ Q)
  | k, [], P, Q, c, r, h, hq => by
    rw [show P = [] from h]
    exact ⟨Q, [], by simp, hq, rfl⟩
  | k, x :: T, P, Q, c, r, h, hq => by
    obtain ⟨P1, P2, rfl, h1, h2⟩ := h
    refine ⟨P1, P2 ++ Q, by rw [List.append_assoc], h1, tellP_snoc h2 ?_⟩
    rw [List.length_cons, show k + (T.length + 1) = k + 1 + T.length by omega] at hq
    exact hq
theorem may_of {c k s cm : Nat} (h1 : 1 ≤ s) (h2 : s ≤ c) (h3 : c ≤ cm) (h4 : cm ≤ 4611686018427387904) (h5 : k < 2147483648) : mayT ((c : Nat) : Int) ((k : Nat) : Int) = true := by
  unfold mayT
  rw [decide_eq_true (by omega), decide_eq_true (by unfold maxCount; omega), decide_eq_true (by omega), decide_eq_true (by omega)]; rfl
theorem recs_im : ∀ (T : List (Nat × Rec)) {s c k n f : Nat} {P X : List UInt8}, 1 ≤ s → c ≤ 4611686018427387904 → okT s c T → tellP k T P → k + T.length < 2147483648 → (P ++ X).length = n * 128 → n ≤ f →
    recsL s c k (rowsL f (P ++ X) n) = T.map (·.2) ++ recsL s c (k + T.length) (rowsL (n - atT T) X (n - atT T))
  | [], s, c, k, n, f, P, X, h1, h2, h3, hP, h4, h5, h6 => by
    rw [show P = [] from hP, List.nil_append] at h5 ⊢
    have e : atT [] = 0 := rfl
    rw [e, Nat.sub_zero, rowsL_fuel f n X n h6 (Nat.le_refl _) (by omega)]; rfl
  | x :: T, s, c, k, n, f, P, X, h1, h2, h3, hP, h4, h5, h6 => by
    obtain ⟨P1, P2, rfl, hp1, hp2⟩ := hP
    obtain ⟨a1, a2, a3, a4⟩ := h3 x (List.mem_cons_self ..)
    have hrest : okT s c T := fun y hy => h3 y (List.mem_cons_of_mem _ hy)
    rw [List.length_cons] at h4
    have hsh := rec_short a3 a4
    have hrl := hp1.1
    have hrb := recB_len a3
    have htl := tellP_len hrest hp2
    rw [List.append_assoc] at h5 ⊢
    have hlen := h5
    rw [List.length_append, hrl] at hlen
    have hpos := (needW_pos (of_decide_eq_true (Bool.and_eq_true_iff.1 a4).1)).2
    rw [← hrb] at hpos
    have hmt := may_of (k := k) h1 a1 a2 h2 (by omega)
    obtain ⟨f, rfl⟩ : ∃ z, f = z + 1 := ⟨f - 1, by omega⟩
    rw [rowsL_im hp1 hmt hsh (by omega) h5]
    have hok : okRow s c k ⟨x.1, k, recB x.2⟩ = some x.2 := by
      rw [okRow, if_pos ⟨rfl, a1, a2⟩]; exact ofR_rec a3 a4
    have hr := recs_im T (s := s) (c := c) (k := k + 1) (n := n - needN (recB x.2).length) (f := f) (X := X) h1 h2 hrest hp2 (by omega) (by rw [Nat.sub_mul]; omega) (by omega)
    rw [recsL_some hok, hr, List.map_cons, List.cons_append, atT_cons, hrb, List.length_cons, show k + 1 + T.length = k + (T.length + 1) by omega, Nat.sub_sub]
theorem join_halves {l : List UInt8} {n : Nat} (hj : joinIs l n = true) : 0 < hMany (halfAt l 0) ∧ hMany (halfAt l 0) ≤ 683 ∧ (hMany (halfAt l 0) + 1) / 2 ≤ n ∧ ∀ i, i < hMany (halfAt l 0) → goodH (halfAt l i) (hCount (halfAt l 0)) (hNum (halfAt l 0)) i (hMany (halfAt l 0)) = true := by
  unfold joinIs joinMay joinOk at hj
  simp only [Bool.and_eq_true, decide_eq_true_eq, List.all_eq_true, List.mem_range] at hj
  obtain ⟨⟨h0, ⟨⟨⟨hmay, hm1⟩, hm2⟩, hm3⟩⟩, ⟨⟨hall, hK⟩, hmk⟩, hz⟩ := hj
  exact ⟨by omega, hm2, hm3, hall⟩
theorem good_facts {h : List UInt8} {c nn i m : Nat} (hg : goodH h c nn i m = true) : mayT (hCount h) (hNum h) = true ∧ hCount h = c ∧ hNum h = nn ∧ hMany h = m := by
  simp only [goodH, Bool.and_eq_true, decide_eq_true_eq] at hg
  exact ⟨hg.1.1.1, hg.1.1.2.1, hg.1.1.2.2, hg.2⟩
theorem bodies_cong {l l' : List UInt8} : ∀ {m : Nat}, (∀ i, i < m → halfAt l' i = halfAt l i) → bodies l' m = bodies l m
  | 0, _ => rfl
  | m + 1, h => by rw [bodies_succ, bodies_succ, bodies_cong fun i hi => h i (by omega), h m (by omega)]
theorem join_cong {l l' : List UInt8} {n : Nat} (hj : joinIs l n = true) (h : ∀ i, i < hMany (halfAt l 0) → halfAt l' i = halfAt l i) : joinIs l' n = true ∧ joinB l' = joinB l ∧ halfAt l' 0 = halfAt l 0 := by
  have h0 := h 0 (join_halves hj).1
  have hb := bodies_cong h
  have hb2 : bodies l' (hMany (halfAt l' 0)) = bodies l (hMany (halfAt l 0)) := by rw [h0, hb]
  have hK : joinK l' (hMany (halfAt l' 0)) = joinK l (hMany (halfAt l 0)) := by rw [joinK, joinK, hb2]
  have hB : joinB l' = joinB l := by rw [joinB, joinB, hb2, hK]
  refine ⟨?_, hB, h0⟩
  have hO : joinOk l' (hCount (halfAt l' 0)) (hNum (halfAt l' 0)) (hMany (halfAt l' 0)) = joinOk l (hCount (halfAt l 0)) (hNum (halfAt l 0)) (hMany (halfAt l 0)) := by
    unfold joinOk
    rw [hK, hb2, h0]
    congr 3
    rw [Bool.eq_iff_iff, List.all_eq_true, List.all_eq_true]
    exact ⟨fun hh i hi => by rw [← h i (List.mem_range.1 hi)]; exact hh i hi, fun hh i hi => by rw [h i (List.mem_range.1 hi)]; exact hh i hi⟩
  have : joinIs l' n = joinIs l n := by
    unfold joinIs joinMay
    rw [hO, h0]
  rw [this]; exact hj
end Go.Proofs.YtielfpkjoidomaaGreat
namespace Go.Proofs.YtielfpkjoidomaaGreat
open Go Go.RowKit Coup
def mayH (h : List UInt8) : Prop := mayT ((hCount h : Nat) : Int) ((hNum h : Nat) : Int) = true
def noNext (s k m : Nat) (X : List UInt8) : Prop := joinIs X m = true → s ≤ hCount (halfAt X 0) → hNum (halfAt X 0) = k → ofR (joinB X) = none
structure Inv (n c cx s : Nat) (T : List (Nat × Rec)) (B : List UInt8) : Prop where
  len : B.length = 128 * n
  s1 : 1 ≤ s
  sc : s ≤ c
  ok : okT s c T
  low : ∀ i, i < 2 * n → mayH (halfAt B i) → hCount (halfAt B i) ≤ c
  ex : ∃ P X, B = P ++ X ∧ tellP 0 T P ∧ atT T ≤ n ∧ (∀ i, i < 2 * (n - atT T) → mayH (halfAt X i) → hCount (halfAt X i) < cx ∧ (s ≤ hCount (halfAt X i) → hNum (halfAt X i) ≤ T.length)) ∧ noNext s T.length (n - atT T) X
theorem atT_len {s c : Nat} : ∀ {T : List (Nat × Rec)}, okT s c T → T.length ≤ atT T
  | [], _ => Nat.le_refl _
  | x :: T, h => by
    have ih := atT_len (T := T) fun y hy => h y (List.mem_cons_of_mem _ hy)
    obtain ⟨_, _, h3, h4⟩ := h x (List.mem_cons_self ..)
    have hpos := (needW_pos (of_decide_eq_true (Bool.and_eq_true_iff.1 h4).1)).2
    rw [atT_cons, List.length_cons]; omega
theorem next_none {s c k m : Nat} {X : List UInt8} (h : noNext s k m X) : recsL s c k (rowsL m X m) = [] := by
  cases m with
  | zero => rfl
  | succ m =>
    rw [rowsL]
    cases hj : joinIs X (m + 1) with
    | false => rfl
    | true =>
      rw [if_pos rfl]
      refine recsL_none ?_
      unfold okRow
      by_cases hc : hNum (halfAt X 0) = k ∧ s ≤ hCount (halfAt X 0) ∧ hCount (halfAt X 0) ≤ c
      · rw [if_pos hc]; exact h hj hc.2.1 hc.1
      · rw [if_neg hc]
namespace Inv
variable {n c cx s : Nat} {T : List (Nat × Rec)} {B : List UInt8}
theorem recs (h : Inv n c cx s T B) (hc : c ≤ 4611686018427387904) (hn : n ≤ 4000) : recsL s c 0 (rowsL n B n) = T.map (·.2) := by
  obtain ⟨P, X, rfl, hP, hat, _, hno⟩ := h.ex
  have hl := atT_len h.ok
  rw [recs_im T h.s1 hc h.ok hP (by omega) (by rw [h.len]; omega) (Nat.le_refl _), Nat.zero_add, next_none hno, List.append_nil]
theorem up {c' cx' : Nat} (h : Inv n c cx s T B) (hc : c ≤ c') (hx : cx ≤ cx') : Inv n c' cx' s T B :=
  ⟨h.len, h.s1, Nat.le_trans h.sc hc, fun x hx => let ⟨a, b, d⟩ := h.ok x hx; ⟨a, Nat.le_trans b hc, d⟩, fun i hi hm => Nat.le_trans (h.low i hi hm) hc,
    let ⟨P, X, e, h1, h2, h3, h4⟩ := h.ex; ⟨P, X, e, h1, h2, fun i hi hm => ⟨Nat.lt_of_lt_of_le (h3 i hi hm).1 hx, (h3 i hi hm).2⟩, h4⟩⟩
theorem trunc (h : Inv n c cx s T B) : Inv n (c + 1) (c + 1) (c + 1) [] B :=
  ⟨h.len, by omega, Nat.le_refl _, fun x hx => (nomatch hx), fun i hi hm => Nat.le_succ_of_le (h.low i hi hm), [], B, rfl, rfl, Nat.zero_le _, fun i hi hm => by
    have hi' : i < 2 * n := by
      have e : atT [] = 0 := rfl
      rw [e] at hi; omega
    have := h.low i hi' hm
    exact ⟨by omega, fun h2 => by omega⟩, fun hj hs hk => by
    have h0 := (join_halves hj).2.2.2 0 (join_halves hj).1
    have hn0 : 0 < n := by
      have := (join_facts hj).1
      have e : atT [] = 0 := rfl
      rw [e] at this; omega
    have := h.low 0 (by omega) (good_facts h0).1
    omega⟩
end Inv
theorem zero_not (h : List UInt8) (h0 : hCount h = 0) : ¬ mayH h := fun hm => by
  have := (may_bounds hm).1
  omega
theorem row_halves {c k : Nat} {b : List UInt8} (hmt : mayT ((c : Nat) : Int) ((k : Nat) : Int) = true) (hb : b.length ≤ 32768) {i : Nat} (hi : i < 2 * needN b.length) (hm : mayH (halfAt (rowB c k b) i)) :
    i < manyN b.length ∧ hCount (halfAt (rowB c k b) i) = c ∧ hNum (halfAt (rowB c k b) i) = k ∧ hMany (halfAt (rowB c k b) i) = manyN b.length := by
  have hmb := may_bounds hmt
  have hmx := manyN_max hb
  by_cases hlt : i < manyN b.length
  · have hr := row_half c k b [] i hlt
    rw [List.append_nil] at hr
    obtain ⟨f1, f2, -, f4, -⟩ := halfB_fields c k i (manyN b.length) (pieceB b i)
    rw [← hr, Nat.mod_eq_of_lt (by omega)] at f1
    rw [← hr, Nat.mod_eq_of_lt (by omega)] at f2
    rw [← hr, Nat.mod_eq_of_lt (by omega)] at f4
    exact ⟨hlt, f1, f2, f4⟩
  · refine absurd hm (zero_not _ ?_)
    have hl : ((halvesL c k b).flatten).length = 64 * manyN b.length := by rw [flat64 _ (halvesL_64 c k b), halvesL_len]
    rw [hCount, halfAt, rowB, show 64 * i = ((halvesL c k b).flatten).length + 64 * (i - manyN b.length) by rw [hl]; omega, ← List.drop_drop, List.drop_left' rfl, zeros_drop, zeros_take, zeros_take, numB_zeros]
section
variable {n c s : Nat} {T : List (Nat × Rec)} {P X X' : List UInt8} {r : Rec}
theorem inv_mix (h : Inv n c c s T (P ++ X)) (hP : tellP 0 T P) (hX : X.length = 128 * (n - atT T)) (hat : atT T ≤ n)
    (h3 : ∀ i, i < 2 * (n - atT T) → mayH (halfAt X i) → hCount (halfAt X i) < c ∧ (s ≤ hCount (halfAt X i) → hNum (halfAt X i) ≤ T.length)) (h4 : noNext s T.length (n - atT T) X)
    (hc : c ≤ 4611686018427387904) (hn : n ≤ 4000) (hr : chsOk r) (hm : mayR r = true) (hfit : atT T + needN (516 * r.length) ≤ n) (hX' : X'.length = X.length)
    (hmix : ∀ i, i < 2 * (n - atT T) → halfAt X' i = halfAt X i ∨ (i < 2 * needN (516 * r.length) ∧ halfAt X' i = halfAt (rowB c T.length (recB r)) i)) :
    Inv n c (c + 1) s T (P ++ X') ∨ Inv n c (c + 1) s (T ++ [(c, r)]) (P ++ X') := by
  have hTl := atT_len h.ok
  have hPl := tellP_len h.ok hP
  have hmt := may_of (k := T.length) h.s1 h.sc (Nat.le_refl c) hc (by omega)
  have hrb := recB_len hr
  have hsh := rec_short hr hm
  have hN : needN (recB r).length = needN (516 * r.length) := by rw [hrb]
  have hlen : (P ++ X').length = 128 * n := by rw [List.length_append, hX', hX, hPl]; omega
  have hall : ∀ i, i < 2 * (n - atT T) → mayH (halfAt X' i) → hCount (halfAt X' i) ≤ c ∧ (s ≤ hCount (halfAt X' i) → hNum (halfAt X' i) ≤ T.length) := fun i hi hmi => by
    rcases hmix i hi with e | ⟨hik, e⟩
    · rw [e] at hmi ⊢
      have := h3 i hi hmi
      exact ⟨by omega, this.2⟩
    · rw [e] at hmi ⊢
      obtain ⟨_, q1, q2, _⟩ := row_halves hmt hsh (by rw [hN]; exact hik) hmi
      rw [q1, q2]
      exact ⟨Nat.le_refl _, fun _ => Nat.le_refl _⟩
  have hlow : ∀ i, i < 2 * n → mayH (halfAt (P ++ X') i) → hCount (halfAt (P ++ X') i) ≤ c := fun i hi hmi => by
    by_cases hip : i < 2 * atT T
    · have e1 : halfAt (P ++ X') i = halfAt P i := half_app (by omega)
      have e2 : halfAt (P ++ X) i = halfAt P i := half_app (by omega)
      rw [e1, ← e2] at hmi ⊢
      exact h.low i hi hmi
    · have e1 : halfAt (P ++ X') i = halfAt X' (i - 2 * atT T) := by
        have := half_app2 (X := X') (i := i - 2 * atT T) (k := 2 * atT T) (P := P) (by omega)
        rwa [show 2 * atT T + (i - 2 * atT T) = i by omega] at this
      rw [e1] at hmi ⊢
      exact (hall _ (by omega) hmi).1
  by_cases hacc : joinIs X' (n - atT T) = true ∧ s ≤ hCount (halfAt X' 0) ∧ hNum (halfAt X' 0) = T.length ∧ ofR (joinB X') ≠ none
  · obtain ⟨hj, hs, hk, hof⟩ := hacc
    obtain ⟨j1, j2, j3, j4⟩ := join_halves hj
    obtain ⟨g1, _⟩ := good_facts (j4 0 j1)
    have hc0 := (hall 0 (by omega) g1).1
    by_cases hlt : hCount (halfAt X' 0) < c
    ·
      exfalso
      have hcong : ∀ i, i < hMany (halfAt X' 0) → halfAt X i = halfAt X' i := fun i hi => by
        obtain ⟨f1, f2, _⟩ := good_facts (j4 i hi)
        rcases hmix i (by omega) with e | ⟨hik, e⟩
        · exact e.symm
        · have f1' : mayH (halfAt (rowB c T.length (recB r)) i) := by rw [← e]; exact f1
          obtain ⟨_, q1, _⟩ := row_halves hmt hsh (by rw [hN]; exact hik) f1'
          rw [e, q1] at f2
          omega
      obtain ⟨k1, k2, k3⟩ := join_cong hj hcong
      have := h4 k1 (by rw [k3]; exact hs) (by rw [k3]; exact hk)
      rw [k2] at this
      exact hof this
    ·
      right
      have hceq : hCount (halfAt X' 0) = c := by omega
      have hnew : ∀ i, i < hMany (halfAt X' 0) → i < manyN (recB r).length ∧ halfAt X' i = halfAt (rowB c T.length (recB r)) i ∧ hMany (halfAt X' 0) = manyN (recB r).length := fun i hi => by
        obtain ⟨f1, f2, _, f4⟩ := good_facts (j4 i hi)
        rcases hmix i (by omega) with e | ⟨hik, e⟩
        · have f1' : mayH (halfAt X i) := by rw [← e]; exact f1
          have := (h3 i (by omega) f1').1
          rw [← e, f2, hceq] at this
          omega
        · have f1' : mayH (halfAt (rowB c T.length (recB r)) i) := by rw [← e]; exact f1
          obtain ⟨q0, _, _, q4⟩ := row_halves hmt hsh (by rw [hN]; exact hik) f1'
          exact ⟨q0, e, by rw [← f4, e, q4]⟩
      have hM := (hnew 0 j1).2.2
      have hwl : 128 * needN (516 * r.length) ≤ X'.length := by rw [hX', hX]; omega
      have him : RowIm c (0 + T.length) (recB r) (X'.take (128 * needN (516 * r.length))) := by
        refine ⟨by rw [List.length_take, hN]; omega, fun i hi => ?_⟩
        have hmn : manyN (recB r).length ≤ 2 * needN (516 * r.length) := by rw [← hN]; unfold needN; omega
        rw [show 128 * needN (516 * r.length) = 64 * (2 * needN (516 * r.length)) by omega, half_take (by omega), (hnew i (by omega)).2.1, Nat.zero_add]
        exact (row_im c T.length (recB r)).2 i hi
      have hatT : atT (T ++ [(c, r)]) = atT T + needN (516 * r.length) := by simp [atT, atS]
      have hd : ∀ i, halfAt (X'.drop (128 * needN (516 * r.length))) i = halfAt X' (2 * needN (516 * r.length) + i) := fun i => by
        rw [show 128 * needN (516 * r.length) = 64 * (2 * needN (516 * r.length)) by omega, half_drop]
      refine ⟨hlen, h.s1, h.sc, fun x hx => ?_, hlow, P ++ X'.take (128 * needN (516 * r.length)), X'.drop (128 * needN (516 * r.length)), by rw [List.append_assoc, List.take_append_drop], tellP_snoc hP him, by rw [hatT]; exact hfit, fun i hi hmi => ?_, fun hj2 hs2 hk2 => ?_⟩
      · rcases List.mem_append.1 hx with hx | hx
        · exact h.ok x hx
        · rw [List.mem_singleton.1 hx]; exact ⟨h.sc, Nat.le_refl _, hr, hm⟩
      · rw [hatT] at hi
        rw [hd] at hmi ⊢
        have := hall (2 * needN (516 * r.length) + i) (by omega) hmi
        rw [List.length_append, List.length_singleton]
        exact ⟨by omega, fun hss => Nat.le_succ_of_le (this.2 hss)⟩
      · exfalso
        obtain ⟨m1, _, m3, m4⟩ := join_halves hj2
        obtain ⟨p1, _⟩ := good_facts (m4 0 m1)
        rw [hatT] at m3
        rw [hd] at p1 hs2 hk2
        have := (hall (2 * needN (516 * r.length) + 0) (by omega) p1).2 hs2
        rw [hk2, List.length_append, List.length_singleton] at this
        omega
  · left
    refine ⟨hlen, h.s1, h.sc, h.ok, hlow, P, X', rfl, hP, hat, fun i hi hmi => ?_, fun hj hs hk => ?_⟩
    · have := hall i hi hmi
      exact ⟨by omega, this.2⟩
    · cases ho : ofR (joinB X') with
      | none => rfl
      | some v => exact absurd ⟨hj, hs, hk, by rw [ho]; exact fun e => nomatch e⟩ hacc
theorem inv_done (h : Inv n c c s T (P ++ X)) (hP : tellP 0 T P) (hX : X.length = 128 * (n - atT T))
    (h3 : ∀ i, i < 2 * (n - atT T) → mayH (halfAt X i) → hCount (halfAt X i) < c ∧ (s ≤ hCount (halfAt X i) → hNum (halfAt X i) ≤ T.length))
    (hc : c ≤ 4611686018427387904) (hn : n ≤ 4000) (hr : chsOk r) (hm : mayR r = true) (hfit : atT T + needN (516 * r.length) ≤ n) :
    Inv n c c s (T ++ [(c, r)]) (P ++ (rowB c T.length (recB r) ++ X.drop (128 * needN (516 * r.length)))) := by
  have hTl := atT_len h.ok
  have hPl := tellP_len h.ok hP
  have hmt := may_of (k := T.length) h.s1 h.sc (Nat.le_refl c) hc (by omega)
  have hrb := recB_len hr
  have hsh := rec_short hr hm
  have hN : needN (recB r).length = needN (516 * r.length) := by rw [hrb]
  have hRl := rowB_len c T.length (recB r)
  have hatT : atT (T ++ [(c, r)]) = atT T + needN (516 * r.length) := by simp [atT, atS]
  have hd : ∀ i, halfAt (X.drop (128 * needN (516 * r.length))) i = halfAt X (2 * needN (516 * r.length) + i) := fun i => by
    rw [show 128 * needN (516 * r.length) = 64 * (2 * needN (516 * r.length)) by omega, half_drop]
  have him : RowIm c (0 + T.length) (recB r) (rowB c T.length (recB r)) := by rw [Nat.zero_add]; exact row_im ..
  refine ⟨by rw [List.length_append, List.length_append, List.length_drop, hRl, hPl, hX, hN]; omega, h.s1, h.sc, fun x hx => ?_, fun i hi hmi => ?_, P ++ rowB c T.length (recB r), X.drop (128 * needN (516 * r.length)), by rw [List.append_assoc], tellP_snoc hP him, by rw [hatT]; exact hfit, fun i hi hmi => ?_, fun hj2 hs2 hk2 => ?_⟩
  · rcases List.mem_append.1 hx with hx | hx
    · exact h.ok x hx
    · rw [List.mem_singleton.1 hx]; exact ⟨h.sc, Nat.le_refl _, hr, hm⟩
  · by_cases hip : i < 2 * atT T
    · have e1 : halfAt (P ++ (rowB c T.length (recB r) ++ X.drop (128 * needN (516 * r.length)))) i = halfAt P i := half_app (by omega)
      have e2 : halfAt (P ++ X) i = halfAt P i := half_app (by omega)
      rw [e1, ← e2] at hmi ⊢
      exact h.low i hi hmi
    · obtain ⟨j, rfl⟩ : ∃ j, i = 2 * atT T + j := ⟨i - 2 * atT T, by omega⟩
      rw [half_app2 (by omega)] at hmi ⊢
      by_cases hj : j < 2 * needN (516 * r.length)
      · rw [half_app (by rw [hRl, hN]; omega)] at hmi ⊢
        obtain ⟨_, q1, _⟩ := row_halves hmt hsh (by rw [hN]; exact hj) hmi
        omega
      · obtain ⟨l, rfl⟩ : ∃ l, j = 2 * needN (516 * r.length) + l := ⟨j - 2 * needN (516 * r.length), by omega⟩
        rw [half_app2 (by rw [hRl, hN]; omega), hd] at hmi ⊢
        have := (h3 (2 * needN (516 * r.length) + l) (by omega) hmi).1
        omega
  · rw [hatT] at hi
    rw [hd] at hmi ⊢
    have := h3 (2 * needN (516 * r.length) + i) (by omega) hmi
    rw [List.length_append, List.length_singleton]
    exact ⟨this.1, fun hss => Nat.le_succ_of_le (this.2 hss)⟩
  · exfalso
    obtain ⟨m1, _, m3, m4⟩ := join_halves hj2
    obtain ⟨p1, _⟩ := good_facts (m4 0 m1)
    rw [hatT] at m3
    rw [hd] at p1 hs2 hk2
    have := (h3 (2 * needN (516 * r.length) + 0) (by omega) p1).2 hs2
    rw [hk2, List.length_append, List.length_singleton] at this
    omega
end
theorem inv_zero (n : Nat) : Inv n 1 2 1 [] (zerosB (128 * n)) := by
  have hz : ∀ i, ¬ mayH (halfAt (zerosB (128 * n)) i) := fun i => zero_not _ (by rw [hCount, halfAt, zeros_drop, zeros_take, zeros_take, numB_zeros])
  exact ⟨by simp [zerosB], Nat.le_refl _, Nat.le_refl _, fun x hx => (nomatch hx), fun i _ hm => absurd hm (hz i), [], zerosB (128 * n), rfl, rfl, Nat.zero_le _, fun i _ hm => absurd hm (hz i), fun hj _ _ => by
    rw [join_zeros] at hj; cases hj⟩
end Go.Proofs.YtielfpkjoidomaaGreat
namespace Go.Proofs.YtielfpkjoidomaaGreat
open Go Go.RowKit Coup
section
variable {Y : World → List Nat → Prop} [Thing Y] {g x lo : Nat} {L : List Nat} {w : World}
end
end Go.Proofs.YtielfpkjoidomaaGreat
namespace Go.Proofs.YtielfpkjoidomaaGreat
open Go Go.RowKit Coup Go.ChangeShapes Go.WideShapes Go.Deep
def LfQ (W : World) (a : LeafT) (cs : List Value) : Prop := ∃ q cp, cs = [.int .i64 a.num, .slice q a.b.length cp] ∧ SlAt W q a.b.length 1 (bv a.b) ∧ a.b.length ≤ cp
theorem LfQ.below {w w' : World} {a : LeafT} {cs : List Value} (h : LfQ w a cs) (hb : Below w.heap.size w w') : LfQ w' a cs := by
  obtain ⟨q, cp, h1, h2, h3⟩ := h
  exact ⟨q, cp, h1, h2.below hb (Nat.le_refl _), h3⟩
end Go.Proofs.YtielfpkjoidomaaGreat
namespace Go.Proofs.YtielfpkjoidomaaGreat
open Go Go.RowKit Coup
def secD (D : Dk) (n : Nat) : List Sec := (List.range n).map fun i => readD D i
section
variable {Y : World → List Nat → Prop} [Thing Y] {g lo : Nat} {L : List Nat} {D : Dk} {w : World}
end
end Go.Proofs.YtielfpkjoidomaaGreat
namespace Go.Proofs.YtielfpkjoidomaaGreat
open Go Go.RowKit Coup Go.ChangeShapes Go.WideShapes Go.Deep
structure CellT where
  at_ : Int
  kind : Int
  i : Int
  count : Nat
  since : Nat
  tc : Nat
  tn : Int
  b : List UInt8
  s : Sec
  torn : Bool
def ceC (a : CellT) (q : Option Addr) (cp : Nat) : List Value := .int .i64 a.at_ :: .int .i64 a.kind :: .int .i64 a.i :: .int .u64 (a.count : Int) :: .int .u64 (a.since : Int) :: .int .u64 (a.tc : Int) :: .int .i64 a.tn :: .slice q a.b.length cp :: (bv a.s ++ [.bool a.torn])
def CeQ (W : World) (a : CellT) (cs : List Value) : Prop := ∃ q cp, cs = ceC a q cp ∧ a.s.length = 128 ∧ SlAt W q a.b.length 1 (bv a.b) ∧ a.b.length ≤ cp ∧ wf64 a.at_ ∧ wf64 a.kind ∧ wf64 a.i ∧ a.count < 18446744073709551616 ∧ a.since < 18446744073709551616 ∧ a.tc < 18446744073709551616 ∧ wf64 a.tn
section
theorem CeQ.below {w w' : World} {a : CellT} {cs : List Value} (h : CeQ w a cs) (hb : Below w.heap.size w w') : CeQ w' a cs := by
  obtain ⟨q, cp, h1, h2, h3, h4⟩ := h
  exact ⟨q, cp, h1, h2, h3.below hb (Nat.le_refl _), h4⟩
variable {Y : World → List Nat → Prop} [Thing Y] {g : Nat} {D : Dk} {w w0 : World}
end
end Go.Proofs.YtielfpkjoidomaaGreat
namespace Go.Proofs.YtielfpkjoidomaaGreat
open Go Go.RowKit Coup Go.ChangeShapes Go.WideShapes Go.Deep
def fitZ (all n : Int) : Bool := decide (4 ≤ n ∧ n ≤ 4000 ∧ n < all)
theorem crash_read {D : Dk} {i : Nat} (picks : List Int) (hb : openB D i = false) : readD (crashD D picks) i = readD D i := by
  have e : ver (crashD D picks) i = ver (setAll D (setXs D fun k i => leftS (ver D i) (picks.getD k 0))) i := rfl
  rw [readD, readD, e, ver_unsettled hb]
section
variable {Y : World → List Nat → Prop} [Thing Y] {g lo : Nat} {L : List Nat} {D : Dk} {w : World}
end
end Go.Proofs.YtielfpkjoidomaaGreat
namespace Go.Proofs.YtielfpkjoidomaaGreat
open Go Go.RowKit Coup
theorem step_yes {D : Dk} (h : stepOk D = true) : D.dead = false ∧ (stepD D).dead = false := by
  have hd : D.dead = false := by
    cases hx : D.dead with
    | false => rfl
    | true => rw [(stepD_dead hx).1] at h; cases h
  exact ⟨hd, by rw [stepD, if_pos h]; exact hd⟩
theorem step_no {D : Dk} (h : stepOk D = false) : (stepD D).dead = true := by rw [stepD, h]; rfl
theorem ver_V {D D' : Dk} (h : D'.V = D.V) (j : Nat) : ver D' j = ver D j := by rw [ver, ver, h]
theorem write_yes {D : Dk} (h : stepOk D = true) {i : Nat} (hi : i < D.V.length) (s : Sec) : (writeA D (i : Int) s).dead = false ∧ ∀ j, ver (writeA D (i : Int) s) j = if i = j then ver D j ++ [s] else ver D j := by
  have hin : inD D (i : Int) = true := decide_eq_true ⟨by omega, by omega⟩
  rw [writeA, hin, if_pos rfl, Int.toNat_natCast, writeD, if_pos h]
  refine ⟨(step_yes h).2, fun j => ?_⟩
  rw [ver_set (by rw [stepD_V]; exact hi), ver_V (stepD_V D)]
  by_cases e : i = j
  · subst e; rw [if_pos rfl]
  · rw [if_neg e, if_neg e]
theorem write_no {D : Dk} (h : stepOk D = false) {i : Nat} (hi : i < D.V.length) (s : Sec) : (writeA D (i : Int) s).dead = true ∧ ∀ j, ver (writeA D (i : Int) s) j = ver D j := by
  have hin : inD D (i : Int) = true := decide_eq_true ⟨by omega, by omega⟩
  rw [writeA, hin, if_pos rfl, Int.toNat_natCast, writeD, h]
  exact ⟨step_no h, fun j => ver_V (stepD_V D) j⟩
theorem writes_cases : ∀ (R : List Sec) (D : Dk) (a : Nat), D.dead = false → a + R.length ≤ D.V.length →
    ((writesW D a R).2 = true ∧ (writesW D a R).1.dead = false ∧ ∀ j, ver (writesW D a R).1 j = if a ≤ j ∧ j < a + R.length then ver D j ++ [R.getD (j - a) zeroS] else ver D j) ∨
    ((writesW D a R).2 = false ∧ (writesW D a R).1.dead = true ∧ ∀ j, ver (writesW D a R).1 j = ver D j ∨ (a ≤ j ∧ j < a + R.length ∧ ver (writesW D a R).1 j = ver D j ++ [R.getD (j - a) zeroS]))
  | [], D, a, hd, _ => .inl ⟨rfl, hd, fun j => by rw [if_neg (by rw [List.length_nil]; omega)]; rfl⟩
  | t :: R, D, a, hd, hl => by
    rw [List.length_cons] at hl
    rw [writesW]
    cases hs : stepOk D with
    | false =>
      obtain ⟨h1, h2⟩ := write_no hs (i := a) (by omega) t
      rw [if_neg (by simp)]
      exact .inr ⟨rfl, h1, fun j => .inl (h2 j)⟩
    | true =>
      obtain ⟨h1, h2⟩ := write_yes hs (i := a) (by omega) t
      rw [if_pos rfl]
      have hlen : (writeA D (a : Int) t).V.length = D.V.length := writeA_len _ _ _
      rcases writes_cases R (writeA D (a : Int) t) (a + 1) h1 (by rw [hlen]; omega) with ⟨e1, e2, e3⟩ | ⟨e1, e2, e3⟩
      · refine .inl ⟨e1, e2, fun j => ?_⟩
        rw [e3 j, h2 j, List.length_cons]
        by_cases c1 : a + 1 ≤ j ∧ j < a + 1 + R.length
        · rw [if_pos c1, if_neg (by omega : ¬ a = j), if_pos (by omega : a ≤ j ∧ j < a + (R.length + 1)), show j - a = (j - (a + 1)) + 1 by omega, List.getD_cons_succ]
        · rw [if_neg c1]
          by_cases c2 : a = j
          · rw [if_pos c2, if_pos (by omega), show j - a = 0 by omega, List.getD_cons_zero]
          · rw [if_neg c2, if_neg (by omega)]
      · refine .inr ⟨e1, e2, fun j => ?_⟩
        rw [List.length_cons]
        rcases e3 j with h3 | ⟨k1, k2, k3⟩
        · rw [h3, h2 j]
          by_cases c2 : a = j
          · rw [if_pos c2]
            exact .inr ⟨by omega, by omega, by rw [show j - a = 0 by omega, List.getD_cons_zero]⟩
          · rw [if_neg c2]; exact .inl rfl
        · rw [k3, h2 j, if_neg (by omega)]
          exact .inr ⟨by omega, by omega, by rw [show j - a = (j - (a + 1)) + 1 by omega, List.getD_cons_succ]⟩
theorem flush_yes {D : Dk} (h : stepOk D = true) : (flushD D).dead = false ∧ shortD (flushD D) 1 ∧ ∀ j, j < D.V.length → readD (flushD D) j = readD D j := by
  refine ⟨?_, ?_, fun j hj => readF h hj⟩
  · rw [flushD, if_pos h]; exact (step_yes h).2
  · rw [flushD, if_pos h]
    intro v hv
    obtain ⟨u, _, rfl⟩ := List.mem_map.1 hv
    simp
theorem flush_no {D : Dk} (h : stepOk D = false) : (flushD D).dead = true ∧ ∀ j, ver (flushD D) j = ver D j := by
  rw [flushD, h]
  exact ⟨step_no h, fun j => ver_V (stepD_V D) j⟩
theorem put_cases (R : List Sec) {D : Dk} (a : Nat) (hd : D.dead = false) (hsh : shortD D 1) (hl : a + R.length ≤ D.V.length) :
    ((putW D a R).2 = true ∧ (putW D a R).1.dead = false ∧ shortD (putW D a R).1 1 ∧ ∀ j, j < D.V.length → readD (putW D a R).1 j = if a ≤ j ∧ j < a + R.length then R.getD (j - a) zeroS else readD D j) ∨
    ((putW D a R).2 = false ∧ (putW D a R).1.dead = true ∧ ∀ j, ver (putW D a R).1 j = ver D j ∨ (a ≤ j ∧ j < a + R.length ∧ ver (putW D a R).1 j = ver D j ++ [R.getD (j - a) zeroS])) := by
  rcases writes_cases R D a hd hl with ⟨e1, e2, e3⟩ | ⟨e1, e2, e3⟩
  · rw [putW, if_pos e1]
    cases hs : stepOk (writesW D a R).1 with
    | true =>
      obtain ⟨f1, f2, f3⟩ := flush_yes hs
      refine .inl ⟨rfl, f1, f2, fun j hj => ?_⟩
      rw [f3 j (by rw [writesW_len]; exact hj), readD, e3 j]
      by_cases c : a ≤ j ∧ j < a + R.length
      · rw [if_pos c, if_pos c]; simp [lastS]
      · rw [if_neg c, if_neg c]; rfl
    | false =>
      obtain ⟨f1, f2⟩ := flush_no hs
      refine .inr ⟨rfl, f1, fun j => ?_⟩
      rw [f2 j, e3 j]
      by_cases c : a ≤ j ∧ j < a + R.length
      · rw [if_pos c]; exact .inr ⟨c.1, c.2, rfl⟩
      · rw [if_neg c]; exact .inl rfl
  · rw [putW, if_neg (by rw [e1]; simp)]
    exact .inr ⟨e1, e2, e3⟩
theorem put_len (D : Dk) (a : Nat) (R : List Sec) : (putW D a R).1.V.length = D.V.length := by
  unfold putW
  split
  · rw [flush_len, writesW_len]
  · rw [writesW_len]
theorem ver_one {D : Dk} (hok : DkOk D) (hsh : shortD D 1) {j : Nat} (hj : j < D.V.length) : ver D j = [readD D j] := by
  obtain ⟨h1, _, _⟩ := ver_ok hok hj
  have h2 := hsh.ver hj
  have h3 := List.length_pos_iff.2 h1
  obtain ⟨a, ha⟩ := List.length_eq_one_iff.1 (show (ver D j).length = 1 by omega)
  rw [readD, ha]; rfl
theorem sec_halves {s : Sec} (h : s.length = 128) : s = fstH s ++ sndH s := by
  unfold fstH sndH
  rw [List.drop_zero, List.take_of_length_le (l := s.drop 64) (by rw [List.length_drop]; omega), List.take_append_drop]
theorem crash_two {D D2 : Dk} (hok : DkOk D) (hsh : shortD D 1) (hok2 : DkOk D2) (hlen : D2.V.length = D.V.length) (p : List Int) {j : Nat} (hj : j < D.V.length) {t : Sec} {q : Prop} (hv : ver D2 j = ver D j ∨ (q ∧ ver D2 j = ver D j ++ [t])) :
    (readD (crashD D2 p) j).length = 128 ∧ (fstH (readD (crashD D2 p) j) = fstH (readD D j) ∨ (q ∧ fstH (readD (crashD D2 p) j) = fstH t)) ∧ (sndH (readD (crashD D2 p) j) = sndH (readD D j) ∨ (q ∧ sndH (readD (crashD D2 p) j) = sndH t)) := by
  obtain ⟨s, h1, h2, a, ha, b, hb, h3, h4⟩ := crash_ver hok2 p (i := j) (by rw [hlen]; exact hj)
  have hr : readD (crashD D2 p) j = s := by rw [readD, h1]; rfl
  rw [hr]
  have hone := ver_one hok hsh hj
  refine ⟨h2, ?_, ?_⟩
  · rw [h3]
    rcases hv with e | ⟨hq, e⟩
    · rw [e, hone, List.mem_singleton] at ha; rw [ha]; exact .inl rfl
    · rw [e, hone] at ha
      rcases List.mem_append.1 ha with ha | ha
      · rw [List.mem_singleton.1 ha]; exact .inl rfl
      · rw [List.mem_singleton.1 ha]; exact .inr ⟨hq, rfl⟩
  · rw [h4]
    rcases hv with e | ⟨hq, e⟩
    · rw [e, hone, List.mem_singleton] at hb; rw [hb]; exact .inl rfl
    · rw [e, hone] at hb
      rcases List.mem_append.1 hb with hb | hb
      · rw [List.mem_singleton.1 hb]; exact .inl rfl
      · rw [List.mem_singleton.1 hb]; exact .inr ⟨hq, rfl⟩
theorem crash_short1 {D : Dk} (hok : DkOk D) (p : List Int) : shortD (crashD D p) 1 := fun v hv => by
  obtain ⟨j, hj⟩ := List.mem_iff_getElem?.1 hv
  have hjl := (List.getElem?_eq_some_iff.1 hj).1
  rw [crash_len] at hjl
  obtain ⟨s, h1, _⟩ := crash_ver hok p hjl
  have : v = ver (crashD D p) j := by
    rw [ver, List.getD_eq_getElem?_getD, hj]; rfl
  rw [this, h1]; exact Nat.le_refl _
theorem logB_len {D : Dk} (h : DkOk D) {n : Nat} (hn : 1 + n ≤ D.V.length) : (logB D n).length = 128 * n := by rw [logB_eq, flat_len (secL_ok h hn), secL_len, Nat.mul_comm]
theorem flat_half {L : List Sec} (h : secsOk L) {j : Nat} {s : Sec} (hs : L[j]? = some s) : halfAt L.flatten (2 * j) = fstH s ∧ halfAt L.flatten (2 * j + 1) = sndH s := by
  have hf := flat_at h hs
  have e1 : halfAt L.flatten (2 * j) = ((L.flatten.drop (j * 128)).take 128).take 64 := by rw [halfAt, List.take_take, Nat.min_eq_left (by omega), show 64 * (2 * j) = j * 128 by omega]
  have e2 : halfAt L.flatten (2 * j + 1) = ((L.flatten.drop (j * 128)).take 128).drop 64 := by rw [halfAt, List.drop_take, List.drop_drop, show 64 * (2 * j + 1) = j * 128 + 64 by omega]
  have hl := h s (List.mem_of_getElem? hs)
  rw [e1, e2, hf]
  unfold fstH sndH
  exact ⟨by rw [List.drop_zero], by rw [List.take_of_length_le (l := s.drop 64) (by rw [List.length_drop]; omega)]⟩
theorem log_half {D : Dk} (h : DkOk D) {n j : Nat} (hn : 1 + n ≤ D.V.length) (hj : j < n) : halfAt (logB D n) (2 * j) = fstH (readD D (1 + j)) ∧ halfAt (logB D n) (2 * j + 1) = sndH (readD D (1 + j)) :=
  flat_half (secL_ok h hn) (secL_get D hj)
theorem logB_cong {D D' : Dk} {n : Nat} (h : ∀ j, j < n → readD D' (1 + j) = readD D (1 + j)) : logB D' n = logB D n := by
  unfold logB
  congr 1
  exact List.map_congr_left fun i hi => h i (List.mem_range.1 hi)
structure LogOn (D : Dk) (n c cx s : Nat) (T : List (Nat × Rec)) : Prop where
  ok : DkOk D
  len : 1 + n ≤ D.V.length
  short : shortD D 1
  head : readD D 0 = headB c s
  inv : Inv n c cx s T (logB D n)
namespace LogOn
variable {D D' : Dk} {n c cx s : Nat} {T : List (Nat × Rec)}
theorem same (h : LogOn D n c cx s T) (hok : DkOk D') (hlen : D'.V.length = D.V.length) (hsh : shortD D' 1) (hr : ∀ j, j < D.V.length → readD D' j = readD D j) : LogOn D' n c cx s T := by
  have hl := h.len
  exact ⟨hok, by rw [hlen]; exact hl, hsh, (hr 0 (by omega)).trans h.head, by rw [logB_cong fun j hj => hr (1 + j) (by omega)]; exact h.inv⟩
theorem crash (h : LogOn D n c cx s T) (p : List Int) (hok : DkOk (crashD D p)) : LogOn (crashD D p) n c cx s T :=
  h.same hok (crash_len D p) (crash_short1 h.ok p) fun j hj => crash_read p (by
    unfold openB
    have := h.short.ver hj
    exact decide_eq_false (by omega))
end LogOn
end Go.Proofs.YtielfpkjoidomaaGreat
namespace Go.Proofs.YtielfpkjoidomaaGreat
open Go Go.RowKit Coup
theorem LogOn.put {D : Dk} {n c s : Nat} {T : List (Nat × Rec)} {G : Lg} {r : Rec} (h : LogOn D n c c s T) (hd : D.dead = false) (hG : G.count = c ∧ G.num = T.length ∧ G.at_ = atT T) (hc : c ≤ 4611686018427387904) (hn : n ≤ 4000) (hr : chsOk r) (hm : mayR r = true)
    (hfit : atT T + needN (516 * r.length) ≤ n) (hok : DkOk (putW D (1 + G.at_) (rowW G r)).1) (hok2 : ∀ p, DkOk (crashD (putW D (1 + G.at_) (rowW G r)).1 p)) :
    ((putW D (1 + G.at_) (rowW G r)).2 = true ∧ (putW D (1 + G.at_) (rowW G r)).1.dead = false ∧ LogOn (putW D (1 + G.at_) (rowW G r)).1 n c c s (T ++ [(c, r)])) ∨
    ((putW D (1 + G.at_) (rowW G r)).2 = false ∧ (putW D (1 + G.at_) (rowW G r)).1.dead = true ∧ ∀ p, LogOn (crashD (putW D (1 + G.at_) (rowW G r)).1 p) n c (c + 1) s T ∨ LogOn (crashD (putW D (1 + G.at_) (rowW G r)).1 p) n c (c + 1) s (T ++ [(c, r)])) := by
  have hl := h.len
  have hRl := rowW_len G r
  obtain ⟨hRf, hRo⟩ := rowW_flat G hr
  rw [hG.1, hG.2.1] at hRf
  rw [hG.2.2] at hok hok2 ⊢
  generalize rowW G r = R at *
  obtain ⟨P, X, hB, hP, hat, h3, h4⟩ := h.inv.ex
  have hPl := tellP_len h.inv.ok hP
  have hBl := h.inv.len
  have hXl : X.length = 128 * (n - atT T) := by
    rw [hB, List.length_append, hPl] at hBl; omega
  have hi := h.inv
  rw [hB] at hi
  have hlen := put_len D (1 + atT T) R
  rcases put_cases R (1 + atT T) hd h.short (by omega) with ⟨f1, f2, f3, f4⟩ | ⟨f1, f2, f3⟩
  · left
    refine ⟨f1, f2, hok, by rw [hlen]; exact hl, f3, ?_, ?_⟩
    · rw [f4 0 (by omega), if_neg (by omega)]; exact h.head
    · rw [logB_put h.ok hl (by omega) f4 hB hPl, hRf, hRl]
      exact inv_done hi hP hXl h3 hc hn hr hm hfit
  · right
    refine ⟨f1, f2, fun p => ?_⟩
    have hlc : (crashD (putW D (1 + atT T) R).1 p).V.length = D.V.length := by rw [crash_len]; exact hlen
    have hsec : ∀ j, j < D.V.length → (readD (crashD (putW D (1 + atT T) R).1 p) j).length = 128 ∧ (fstH (readD (crashD (putW D (1 + atT T) R).1 p) j) = fstH (readD D j) ∨ ((1 + atT T ≤ j ∧ j < 1 + atT T + R.length) ∧ fstH (readD (crashD (putW D (1 + atT T) R).1 p) j) = fstH (R.getD (j - (1 + atT T)) zeroS))) ∧
        (sndH (readD (crashD (putW D (1 + atT T) R).1 p) j) = sndH (readD D j) ∨ ((1 + atT T ≤ j ∧ j < 1 + atT T + R.length) ∧ sndH (readD (crashD (putW D (1 + atT T) R).1 p) j) = sndH (R.getD (j - (1 + atT T)) zeroS))) := fun j hj =>
      crash_two h.ok h.short hok hlen p hj (by
        rcases f3 j with e | ⟨k1, k2, k3⟩
        · exact .inl e
        · exact .inr ⟨⟨k1, k2⟩, k3⟩)
    have hok3 := hok2 p
    have hsh3 := crash_short1 hok p
    generalize crashD (putW D (1 + atT T) R).1 p = D3 at *
    have hl3 : 1 + n ≤ D3.V.length := by rw [hlc]; exact hl
    have hh0 : readD D3 0 = headB c s := by
      obtain ⟨g1, g2, g3⟩ := hsec 0 (by omega)
      have g2' := g2.elim id fun x => absurd x.1 (by omega)
      have g3' := g3.elim id fun x => absurd x.1 (by omega)
      rw [← h.head, sec_halves g1, sec_halves (readD_len h.ok (i := 0) (by omega)), g2', g3']
    have hB3l := logB_len hok3 hl3
    have hhalf : ∀ i, i < 2 * n → halfAt (logB D3 n) i = halfAt (logB D n) i ∨ ((2 * atT T ≤ i ∧ i < 2 * atT T + 2 * R.length) ∧ halfAt (logB D3 n) i = halfAt (rowB c T.length (recB r)) (i - 2 * atT T)) := fun i hi2 => by
      obtain ⟨j, hj | hj⟩ : ∃ j, i = 2 * j ∨ i = 2 * j + 1 := ⟨i / 2, by omega⟩
      · subst hj
        obtain ⟨a1, _⟩ := log_half hok3 hl3 (n := n) (j := j) (by omega)
        obtain ⟨b1, _⟩ := log_half h.ok hl (n := n) (j := j) (by omega)
        obtain ⟨_, g2, _⟩ := hsec (1 + j) (by omega)
        rw [a1, b1]
        rcases g2 with g2 | ⟨k, g2⟩
        · exact .inl g2
        · obtain ⟨q, rfl⟩ : ∃ q, j = atT T + q := ⟨j - atT T, by omega⟩
          refine .inr ⟨by omega, ?_⟩
          rw [g2, show 1 + (atT T + q) - (1 + atT T) = q by omega, show 2 * (atT T + q) - 2 * atT T = 2 * q by omega, ← hRf]
          exact (flat_half hRo (j := q) (s := R.getD q zeroS) (by rw [List.getD_eq_getElem?_getD, List.getElem?_eq_getElem (by omega)]; rfl)).1.symm
      · subst hj
        obtain ⟨_, a1⟩ := log_half hok3 hl3 (n := n) (j := j) (by omega)
        obtain ⟨_, b1⟩ := log_half h.ok hl (n := n) (j := j) (by omega)
        obtain ⟨_, _, g2⟩ := hsec (1 + j) (by omega)
        rw [a1, b1]
        rcases g2 with g2 | ⟨k, g2⟩
        · exact .inl g2
        · obtain ⟨q, rfl⟩ : ∃ q, j = atT T + q := ⟨j - atT T, by omega⟩
          refine .inr ⟨by omega, ?_⟩
          rw [g2, show 1 + (atT T + q) - (1 + atT T) = q by omega, show 2 * (atT T + q) + 1 - 2 * atT T = 2 * q + 1 by omega, ← hRf]
          exact (flat_half hRo (j := q) (s := R.getD q zeroS) (by rw [List.getD_eq_getElem?_getD, List.getElem?_eq_getElem (by omega)]; rfl)).2.symm
    have hPe : (logB D3 n).take (64 * (2 * atT T)) = P := halves_ext (2 * atT T) (by rw [List.length_take, hB3l]; omega) (by omega) fun i hi2 => by
      rw [half_take hi2]
      rcases hhalf i (by omega) with e | ⟨k, _⟩
      · rw [e, hB, half_app (by omega)]
      · omega
    have hX : logB D3 n = P ++ (logB D3 n).drop (64 * (2 * atT T)) := by
      have := List.take_append_drop (64 * (2 * atT T)) (logB D3 n)
      rw [hPe] at this; exact this.symm
    have hmx := inv_mix (X' := (logB D3 n).drop (64 * (2 * atT T))) hi hP hXl hat h3 h4 hc hn hr hm hfit (by rw [List.length_drop, hB3l, hXl]; omega) fun i hi2 => by
      rw [half_drop]
      rcases hhalf (2 * atT T + i) (by omega) with e | ⟨k, e⟩
      · left
        rw [e, hB, half_app2 (by omega)]
      · right
        exact ⟨by omega, by rw [e, show 2 * atT T + i - 2 * atT T = i by omega]⟩
    rw [← hX] at hmx
    exact hmx.elim (fun hv => .inl ⟨hok3, hl3, hsh3, hh0, hv⟩) fun hv => .inr ⟨hok3, hl3, hsh3, hh0, hv⟩
end Go.Proofs.YtielfpkjoidomaaGreat
namespace Go.Proofs.YtielfpkjoidomaaGreat
open Go Go.RowKit Coup Go.ChangeShapes Go.WideShapes Go.Deep
structure StepT where
  kind : Int
  n : Int
  lv : List LeafT
  picks : List Int
def StQ (W : World) (a : StepT) (cs : List Value) : Prop := ∃ q cp q2 cp2, cs = [.int .i64 a.kind, .int .i64 a.n, .slice q a.lv.length cp, .slice q2 a.picks.length cp2] ∧ ElsAt (LfQ W) W 2 q a.lv.length a.lv ∧ SlAt W q2 a.picks.length 1 (iv a.picks) ∧ okI a.picks ∧ wf64 a.kind ∧ wf64 a.n
structure LifeT where
  fuse : Int
  steps : List StepT
  picks : List Int
def LiQ (W : World) (a : LifeT) (cs : List Value) : Prop := ∃ q cp q2 cp2, cs = [.int .i64 a.fuse, .slice q a.steps.length cp, .slice q2 a.picks.length cp2] ∧ ElsAt (StQ W) W 4 q a.steps.length a.steps ∧ SlAt W q2 a.picks.length 1 (iv a.picks) ∧ okI a.picks ∧ wf64 a.fuse
theorem StQ.below {w w' : World} {a : StepT} {cs : List Value} (h : StQ w a cs) (hb : Below w.heap.size w w') : StQ w' a cs := by
  obtain ⟨q, cp, q2, cp2, h1, h2, h3, h4⟩ := h
  exact ⟨q, cp, q2, cp2, h1, h2.to hb fun _ _ hq => hq.below hb, h3.below hb (Nat.le_refl _), h4⟩
def fewS (R : List StepT) (most : Nat) : Prop := R.length ≤ most ∧ ∀ a ∈ R, a.lv.length ≤ 62 ∧ a.picks.length ≤ 200
end Go.Proofs.YtielfpkjoidomaaGreat
namespace Go.Proofs.YtielfpkjoidomaaGreat
open Go Go.RowKit Coup
def Shel (lo : Nat) (L : List Nat) (n : Nat) (q : Option Addr) : Prop := 0 < n → ∀ b o, q = some ⟨b, o, none⟩ → b < lo ∨ b ∈ L
theorem Shel.weak {lo n : Nat} {L L2 : List Nat} {q : Option Addr} (h : Shel lo L n q) (h2 : ∀ b ∈ L, b ∈ L2) : Shel lo L2 n q := fun h0 b o e => (h h0 b o e).imp id (h2 b)
theorem Shel.kp {lo m n sz : Nat} {L M : List Nat} {q : Option Addr} {cs : List Value} {w w' : World} (h : Shel lo L n q) (hs : SlAt w q n sz cs) (k : Kp M w w') (hM : ∀ b ∈ M, ¬ (b < lo ∨ b ∈ L)) : SlAt w' q n sz cs :=
  sl_kp0 hs k fun h0 b o e hm => hM b hm (h h0 b o e)
structure RecL (lo : Nat) (L : List Nat) (w : World) (q : Option Addr) (r : Rec) : Prop where
  at_ : SlAt w q r.length 513 (chsV r)
  sh : Shel lo L r.length q
structure AllL (lo : Nat) (L : List Nat) (w : World) (p : Option Addr) (S : List Rec) : Prop where
  ex : ∃ vs, SlAt w p S.length 1 vs ∧ Shel lo L S.length p ∧ ∀ (i : Nat) r, S[i]? = some r → ∃ q c, vs[i]? = some (.slice q r.length c) ∧ RecL lo L w q r
structure AllM (lo : Nat) (L : List Nat) (w : World) (p : Option Addr) (ML : List (List Rec)) : Prop where
  ex : ∃ vs, SlAt w p ML.length 1 vs ∧ Shel lo L ML.length p ∧ ∀ (i : Nat) S, ML[i]? = some S → ∃ q c, vs[i]? = some (.slice q S.length c) ∧ AllL lo L w q S
section
variable {lo : Nat} {L L2 M : List Nat} {w w' : World} {p q : Option Addr} {r : Rec} {S : List Rec} {ML : List (List Rec)}
theorem RecL.kpd (h : RecL lo L w q r) (k : Kp M w w') (hM : ∀ b ∈ M, ¬ (b < lo ∨ b ∈ L)) : RecL lo L w' q r := ⟨Shel.kp (m := 0) h.sh h.at_ k hM, h.sh⟩
theorem AllL.kpd (h : AllL lo L w p S) (k : Kp M w w') (hM : ∀ b ∈ M, ¬ (b < lo ∨ b ∈ L)) : AllL lo L w' p S :=
  let ⟨vs, h1, h2, h3⟩ := h.ex; ⟨vs, Shel.kp (m := 0) h2 h1 k hM, h2, fun i r hr => let ⟨q, c, e, h4⟩ := h3 i r hr; ⟨q, c, e, h4.kpd k hM⟩⟩
theorem AllM.kpd (h : AllM lo L w p ML) (k : Kp M w w') (hM : ∀ b ∈ M, ¬ (b < lo ∨ b ∈ L)) : AllM lo L w' p ML :=
  let ⟨vs, h1, h2, h3⟩ := h.ex; ⟨vs, Shel.kp (m := 0) h2 h1 k hM, h2, fun i r hr => let ⟨q, c, e, h4⟩ := h3 i r hr; ⟨q, c, e, h4.kpd k hM⟩⟩
theorem RecL.new (h : RecL lo L w q r) (hb : Below w.heap.size w w') : RecL lo L w' q r := h.kpd (M := []) (Kp.of_below hb) (by simp)
theorem AllL.new (h : AllL lo L w p S) (hb : Below w.heap.size w w') : AllL lo L w' p S := h.kpd (M := []) (Kp.of_below hb) (by simp)
theorem AllM.new (h : AllM lo L w p ML) (hb : Below w.heap.size w w') : AllM lo L w' p ML := h.kpd (M := []) (Kp.of_below hb) (by simp)
theorem outL_no {n : Nat} (h2 : ∀ b ∈ L, b ∈ L2) : ∀ b ∈ outL lo L2 n, ¬ (b < lo ∨ b ∈ L) := fun b hb hx => notLL (hx.imp id (h2 b)) hb
theorem RecL.ll (h : RecL lo L w q r) (k : LoL lo L2 w w') (h2 : ∀ b ∈ L, b ∈ L2) : RecL lo L w' q r := h.kpd k.kp (outL_no h2)
theorem AllL.ll (h : AllL lo L w p S) (k : LoL lo L2 w w') (h2 : ∀ b ∈ L, b ∈ L2) : AllL lo L w' p S := h.kpd k.kp (outL_no h2)
theorem AllM.ll (h : AllM lo L w p ML) (k : LoL lo L2 w w') (h2 : ∀ b ∈ L, b ∈ L2) : AllM lo L w' p ML := h.kpd k.kp (outL_no h2)
theorem RecL.weak (h : RecL lo L w q r) (h2 : ∀ b ∈ L, b ∈ L2) : RecL lo L2 w q r := ⟨h.at_, h.sh.weak h2⟩
theorem AllL.weak (h : AllL lo L w p S) (h2 : ∀ b ∈ L, b ∈ L2) : AllL lo L2 w p S :=
  let ⟨vs, h1, h4, h3⟩ := h.ex; ⟨vs, h1, h4.weak h2, fun i r hr => let ⟨q, c, e, h5⟩ := h3 i r hr; ⟨q, c, e, h5.weak h2⟩⟩
theorem AllM.weak (h : AllM lo L w p ML) (h2 : ∀ b ∈ L, b ∈ L2) : AllM lo L2 w p ML :=
  let ⟨vs, h1, h4, h3⟩ := h.ex; ⟨vs, h1, h4.weak h2, fun i r hr => let ⟨q, c, e, h5⟩ := h3 i r hr; ⟨q, c, e, h5.weak h2⟩⟩
theorem AllL.nil (lo : Nat) (L : List Nat) (w : World) : AllL lo L w none [] := ⟨[], ⟨rfl, by decide, fun h0 => absurd h0 (by decide)⟩, fun h0 => absurd h0 (by decide), fun i r hr => by simp at hr⟩
theorem AllZ.l {C : List Nat} (h : AllZ p S w C) (hC : ∀ b ∈ C, b ∈ L) : AllL lo L w p S := by
  obtain ⟨_, vs, h2, h3, h4⟩ := h
  refine ⟨vs, h2, fun h0 b o e => .inr (hC b (h3 h0 b o e)), fun i r hr => ?_⟩
  obtain ⟨b, off, c, e1, e2, e3⟩ := h4 i r hr
  exact ⟨_, c, e1, e2, fun _ b' o' e => by cases e; exact .inr (hC _ e3)⟩
theorem AllL.one {i : Nat} (vs : List Value) (h3 : ∀ (i : Nat) r, S[i]? = some r → ∃ q c, vs[i]? = some (.slice q r.length c) ∧ RecL lo L w q r) (hl : vs.length = S.length) : ∀ v ∈ vs, v.oneCell' = true := fun v hv => by
  obtain ⟨j, hj⟩ := List.mem_iff_getElem?.1 hv
  have hlt := (List.getElem?_eq_some_iff.1 hj).1
  obtain ⟨q, c, e, _⟩ := h3 j _ (List.getElem?_eq_getElem (by omega : j < S.length))
  rw [hj] at e
  cases e; rfl
theorem AllL.snoc {vs : List Value} {c : Nat} (hs : SlAt w p (S ++ [r]).length 1 (vs ++ [.slice q r.length c])) (hp : Shel lo L (S ++ [r]).length p) (hl : vs.length = S.length)
    (h3 : ∀ (i : Nat) r, S[i]? = some r → ∃ q c, vs[i]? = some (.slice q r.length c) ∧ RecL lo L w q r) (hr : RecL lo L w q r) : AllL lo L w p (S ++ [r]) := by
  refine ⟨_, hs, hp, fun i x hx => ?_⟩
  by_cases hi : i < S.length
  · rw [List.getElem?_append_left hi] at hx
    obtain ⟨q', c', e, h4⟩ := h3 i x hx
    exact ⟨q', c', by rw [List.getElem?_append_left (by omega)]; exact e, h4⟩
  · have hi' : i = S.length := by
      have := (List.getElem?_eq_some_iff.1 hx).1
      simp at this; omega
    subst hi'
    simp at hx
    subst hx
    exact ⟨q, c, by rw [← hl]; simp, hr⟩
end
theorem crash_ok {D : Dk} (h : DkOk D) (p : List Int) : DkOk (crashD D p) := by
  have hv : ∀ v ∈ (crashD D p).V, ∃ s : Sec, v = [s] ∧ s.length = 128 := fun v hv => by
    obtain ⟨j, hj⟩ := List.mem_iff_getElem?.1 hv
    have hjl := (List.getElem?_eq_some_iff.1 hj).1
    rw [crash_len] at hjl
    obtain ⟨s, h1, h2, _⟩ := crash_ver h p hjl
    have : v = ver (crashD D p) j := by
      rw [ver, List.getD_eq_getElem?_getD, hj]; rfl
    exact ⟨s, this.trans h1, h2⟩
  refine ⟨by rw [crash_len]; exact h.n, fun v h1 => ?_, fun v h1 => ?_, fun v h1 => ?_⟩
  · obtain ⟨s, rfl, _⟩ := hv v h1; simp
  · obtain ⟨s, rfl, h2⟩ := hv v h1
    intro t ht
    rw [List.mem_singleton.1 ht]; exact h2
  · obtain ⟨s, rfl, _⟩ := hv v h1; simp
def CrashOk (D : Dk) (n cb : Nat) (ML : List (List Rec)) : Prop := ∀ p, ∃ c s T, c ≤ cb ∧ LogOn (crashD D p) n c (c + 1) s T ∧ T.map (·.2) ∈ ML
theorem LogOn.up {D : Dk} {n c cx s c' cx' : Nat} {T : List (Nat × Rec)} (h : LogOn D n c cx s T) (hx : cx ≤ cx') : LogOn D n c cx' s T := ⟨h.ok, h.len, h.short, h.head, h.inv.up (Nat.le_refl _) hx⟩
theorem LogOn.rest {D : Dk} {n c cx s : Nat} {T : List (Nat × Rec)} (h : LogOn D n c cx s T) (hx : cx ≤ c + 1) : CrashOk D n c [T.map (·.2)] := fun p =>
  ⟨c, s, T, Nat.le_refl _, (h.crash p (crash_ok h.ok p)).up (c' := c) hx, by simp⟩
def gOf (n c s : Nat) (T : List (Nat × Rec)) (d : Bool) : Lg := ⟨c, s, n, T.length, atT T, d⟩
theorem LogOn.lg {D : Dk} {n c cx s : Nat} {T : List (Nat × Rec)} (h : LogOn D n c cx s T) (hc : c ≤ 4611686018427387904) (h4 : 4 ≤ n) (hn : n ≤ 4000) (d : Bool) : LgOk D (gOf n c s T d) := by
  obtain ⟨P, X, _, _, hat, _⟩ := h.inv.ex
  exact ⟨h.inv.s1, h.inv.sc, hc, h4, hn, hat, atT_len h.inv.ok, h.len⟩
end Go.Proofs.YtielfpkjoidomaaGreat
namespace Go.Proofs.YtielfpkjoidomaaGreat
open Go Go.RowKit Coup
theorem dk_V {D D' : Dk} (h : DkOk D) (e : D'.V = D.V) : DkOk D' := by
  obtain ⟨h1, h2, h3, h4⟩ := h
  exact ⟨by rw [e]; exact h1, by rw [e]; exact h2, by rw [e]; exact h3, by rw [e]; exact h4⟩
theorem dk_write {D : Dk} {k : Nat} (h : DkOk D) (hsh : shortD D k) (hk : k + 1 ≤ 100000) (i : Int) {s : Sec} (hs : s.length = 128) : DkOk (writeA D i s) := by
  unfold writeA
  split
  · rename_i hin
    obtain ⟨m, rfl, hm⟩ := inD_nat hin
    rw [Int.toNat_natCast]
    unfold writeD
    split
    · have h2 : DkOk (stepD D) := dk_V h (stepD_V D)
      obtain ⟨v1, v2, v3⟩ := ver_ok h hm
      refine setV_ok h2 (by simp) (fun x hx => ?_) (by rw [List.length_append, List.length_singleton]; have := hsh.ver hm; omega)
      rcases List.mem_append.1 hx with hx | hx
      · exact v2 x hx
      · rw [List.mem_singleton.1 hx]; exact hs
    · exact dk_V h (stepD_V D)
  · exact h
theorem dk_flush {D : Dk} (h : DkOk D) : DkOk (flushD D) := by
  unfold flushD
  split
  · refine ⟨by show (D.V.map _).length ≤ 8192; rw [List.length_map]; exact h.n, fun v hv => ?_, fun v hv => ?_, fun v hv => ?_⟩
    · obtain ⟨u, _, rfl⟩ := List.mem_map.1 hv; simp
    · obtain ⟨u, hu, rfl⟩ := List.mem_map.1 hv
      intro s hs
      rw [List.mem_singleton.1 hs]
      exact lastS_ok (h.sec u hu)
    · obtain ⟨u, _, rfl⟩ := List.mem_map.1 hv; simp
  · exact dk_V h (stepD_V D)
theorem dk_writes : ∀ (R : List Sec) {D : Dk} {k : Nat} (a : Nat), DkOk D → shortD D k → k + R.length ≤ 100000 → secsOk R → DkOk (writesW D a R).1
  | [], D, k, a, h, _, _, _ => h
  | s :: R, D, k, a, h, hsh, hk, hR => by
    rw [List.length_cons] at hk
    have h1 := dk_write h hsh (by omega) (a : Int) (hR s (List.mem_cons_self ..))
    rw [writesW]
    split
    · exact dk_writes R (a + 1) h1 (writeA_short hsh _ _) (by omega) fun x hx => hR x (List.mem_cons_of_mem _ hx)
    · exact h1
theorem dk_put {D : Dk} {k : Nat} (h : DkOk D) (hsh : shortD D k) (a : Nat) {R : List Sec} (hk : k + R.length ≤ 100000) (hR : secsOk R) : DkOk (putW D a R).1 := by
  have h1 := dk_writes R a h hsh hk hR
  unfold putW
  split
  · exact dk_flush h1
  · exact h1
theorem dk_save {D : Dk} {k : Nat} (h : DkOk D) (hsh : shortD D k) (hk : k + 1 ≤ 100000) (c s : Nat) : DkOk (saveD D c s) := by
  have h1 := dk_write h hsh hk 0 (headB_len c s)
  unfold saveD
  split
  · exact dk_flush h1
  · exact h1
theorem dk_wrAll (s : Nat) : ∀ (l : List (Nat × Pg)) {D : Dk} {k : Nat}, DkOk D → shortD D k → k + 4 * l.length ≤ 100000 → (∀ p ∈ l, p.2.length = 512) → DkOk (wrAll s D l).1
  | [], D, k, h, _, _, _ => h
  | p :: l, D, k, h, hsh, hk, hl => by
    rw [List.length_cons] at hk
    have h1 := dk_writes (secsOf p.2 4) (1 + s + p.1 * 4) h hsh (by rw [secsOf_len]; omega) (secsOf_ok (by rw [hl p (List.mem_cons_self ..)]))
    have h2 := writesW_short (secsOf p.2 4) D (1 + s + p.1 * 4) k hsh
    rw [secsOf_len] at h2
    rw [wrAll]
    split
    · exact dk_wrAll s l h1 h2 (by omega) fun q hq => hl q (List.mem_cons_of_mem _ hq)
    · exact h1
structure PlL (P : Pl) (T : List (Nat × Rec)) : Prop where
  dk : DkOk P.D
  inv : Inv P.G.size P.G.count P.G.count P.G.since T (logB P.D P.G.size)
  num : P.G.num = T.length
  at_ : P.G.at_ = atT T
  head : readD P.D 0 = headB P.G.count P.G.since
  di : ∀ i, i < P.n → P.di i = addAll P.n (T.map (·.2)) i
theorem PlL.same {P Q : Pl} {T : List (Nat × Rec)} (h : PlL P T) (hD : Q.D = P.D) (hG : Q.G = P.G) (hd : Q.di = P.di) : PlL Q T := by
  have hn : Q.n = P.n := by unfold Pl.n; rw [hD, hG]
  exact ⟨by rw [hD]; exact h.dk, by rw [hD, hG]; exact h.inv, by rw [hG]; exact h.num, by rw [hG]; exact h.at_, by rw [hD, hG]; exact h.head, fun i hi => by rw [hd, hn]; exact h.di i (by rw [← hn]; exact hi)⟩
theorem PlL.settle {P : Pl} {V : Nat → Pg} {k : Nat} {T : List (Nat × Rec)} (h : PlL P T) (hi : PlI P V k) (hk : k ≤ 1000000) (hn : P.n ≤ 2048) : PlL (settleR P).2 [] := by
  obtain ⟨s1, s2, s3, s4, s5, s6, s7, s8⟩ := hi.settle hk
  obtain ⟨k1, k2, k3, k4, k5, k6, k7, k8, k9, k10⟩ := settle_ok hi.ok s1
  have hfit := hi.ok.lg.fit
  have hll := prs_len P.di P.n 0
  obtain ⟨w1, w2, w3, w4⟩ := wrAll_alive P.G.size (prsP P.di 0 P.n) hi.al
  have wl := wrAll_len P.G.size (prsP P.di 0 P.n) P.D
  obtain ⟨f1, f2⟩ := flush_alive w2
  obtain ⟨a1, a2, a3, a4⟩ := save_alive f2 (P.G.count + 1) (P.G.count + 1)
  have hD : (settleR P).2.D = saveD (flushD (wrAll P.G.size P.D (prsP P.di 0 P.n)).1) (P.G.count + 1) (P.G.count + 1) := k10
  have hG : (settleR P).2.G = truncG P.G := s4
  have hdk := dk_wrAll P.G.size (prsP P.di 0 P.n) h.dk hi.al.short (by omega) fun p hp => hi.ok.di _ _ (prs_mem hp).1
  have hlog : logB (settleR P).2.D P.G.size = logB P.D P.G.size := logB_cong fun j hj => by
    rw [hD, a4 _ (by rw [flush_len, wl]; omega), if_neg (by omega), readF f1 (by rw [wl]; omega), w3 _ (by omega) (by omega)]
  refine ⟨by rw [hD]; exact dk_save (dk_flush hdk) f2.short (by omega) _ _, ?_, by rw [hG]; rfl, by rw [hG]; rfl, ?_, fun i _ => by rw [s3]; rfl⟩
  · rw [hG]
    show Inv P.G.size (P.G.count + 1) (P.G.count + 1) (P.G.count + 1) [] (logB _ P.G.size)
    rw [hlog]
    exact h.inv.trunc
  · rw [hG, hD, a4 0 (by rw [flush_len, wl]; omega), if_pos rfl]; rfl
theorem addDi_prs (N : Nat) (c d : PgM) : ∀ (m a : Nat), a + m ≤ N → ∀ i, addDi N d ((prsP c a m).map fun p => ⟨p.1, p.2⟩) i = if a ≤ i ∧ i < a + m then (c i).or (d i) else d i
  | 0, a, _, i => by rw [if_neg (by omega)]; rfl
  | m + 1, a, hN, i => by
    rw [prsP]
    cases hc : c a with
    | some b =>
      have ih := addDi_prs N c (updP d a (some b)) m (a + 1) (by omega) i
      have e : addDi N d (((a, b) :: prsP c (a + 1) m).map fun p => (⟨p.1, p.2⟩ : Ch)) = addDi N (if ((a : Nat) : Int) < (N : Int) then updP d a (some b) else d) ((prsP c (a + 1) m).map fun p => ⟨p.1, p.2⟩) := rfl
      dsimp only
      rw [e, if_pos (by omega), ih]
      dsimp only [updP]
      by_cases h1 : a + 1 ≤ i ∧ i < a + 1 + m
      · rw [if_pos h1, if_neg (show ¬ i = a by omega), if_pos (show a ≤ i ∧ i < a + (m + 1) by omega)]
      · rw [if_neg h1]
        by_cases h2 : i = a
        · subst h2; rw [if_pos rfl, if_pos (by omega), hc]; rfl
        · rw [if_neg h2, if_neg (by omega)]
    | none =>
      dsimp only
      rw [addDi_prs N c d m (a + 1) (by omega) i]
      by_cases h1 : a + 1 ≤ i ∧ i < a + 1 + m
      · rw [if_pos h1, if_pos (by omega)]
      · rw [if_neg h1]
        by_cases h2 : i = a
        · subst h2; rw [if_pos (by omega), hc]; rfl
        · rw [if_neg (by omega)]
theorem PlL.put {P : Pl} {V : Nat → Pg} {k : Nat} {T : List (Nat × Rec)} (h : PlL P T) (hi : PlI P V k) (hk : k ≤ 1000000) (hn : P.n ≤ 2048) (hR1 : ¬ (recP P).length = 0) (hR2 : ¬ 60 < (recP P).length) (hfit : needW ((recP P).length : Int) ≤ ((P.G.size - P.G.at_ : Nat) : Int)) :
    PlL { doneP (putC P (recP P)) (recP P) with ch := noP } (T ++ [(P.G.count, recP P)]) := by
  obtain ⟨c1, c2, c3, c4, c5, c6⟩ := commit_keep hi hk hn hR1 hR2 hfit
  obtain ⟨d1, d2, d3, d4, d5, d6, d7, d8⟩ := doneP_same (recP P) (putC P (recP P))
  have hrw := needW_row P.G (R := recP P) (by omega) (by omega)
  have hlg := hi.ok.lg
  have hat := hlg.at_
  have hfitD := hlg.fit
  have hszm := hlg.szm
  have hRok := (recP_ok hi.ok).1
  have hRm := may_rec (P := P) (by omega) (by omega) hn
  obtain ⟨hRf, hRo⟩ := rowW_flat P.G hRok
  have hRl := rowW_len P.G (recP P)
  obtain ⟨p1, p2, p3, p4⟩ := putW_alive (rowW P.G (recP P)) (1 + P.G.at_) hi.al
  have hdk := dk_put h.dk hi.al.short (1 + P.G.at_) (R := rowW P.G (recP P)) (by omega) hRo
  have hcm := hlg.cm
  have hhead := h.head
  have hdi := h.di
  obtain ⟨P0, X, hB, hP, hatn, h3, h4⟩ := h.inv.ex
  have hPl := tellP_len h.inv.ok hP
  have hBl := h.inv.len
  have hXl : X.length = 128 * (P.G.size - atT T) := by
    rw [hB, List.length_append, hPl] at hBl; omega
  have hiv := h.inv
  rw [hB] at hiv
  have hatT := h.at_
  have hnumT := h.num
  rw [hatT] at p4 hdk c5 c3
  rw [hnumT] at hRf
  refine ⟨?_, ?_, ?_, ?_, ?_, fun i hin => ?_⟩
  · show DkOk (doneP _ _).D
    rw [d1, c5]; exact hdk
  · show Inv (doneP _ _).G.size (doneP _ _).G.count (doneP _ _).G.count (doneP _ _).G.since _ (logB (doneP _ _).D (doneP _ _).G.size)
    rw [d1, d2, c3, c5]
    show Inv P.G.size P.G.count P.G.count P.G.since _ (logB _ P.G.size)
    rw [logB_put h.dk hfitD (by omega) p4 hB hPl, hRf, hRl]
    exact inv_done hiv hP hXl h3 hcm hszm hRok hRm (by omega)
  · show (doneP _ _).G.num = _
    rw [d2, c3, List.length_append, List.length_singleton, ← hnumT]
  · show (doneP _ _).G.at_ = _
    rw [d2, c3]
    show atT T + _ = _
    rw [hRl]
    simp [atT, atS]
  · show readD (doneP _ _).D 0 = headB (doneP _ _).G.count (doneP _ _).G.since
    rw [d1, d2, c3, c5, p4 0 (by omega), if_neg (by omega)]
    exact hhead
  · have hnn : i < P.n := by
      have e : ({ doneP (putC P (recP P)) (recP P) with ch := noP } : Pl).n = P.n := d6.trans c6
      rw [e] at hin; exact hin
    have e : ({ doneP (putC P (recP P)) (recP P) with ch := noP } : Pl).n = P.n := d6.trans c6
    rw [e, List.map_append, List.map_singleton]
    show (doneP (putC P (recP P)) (recP P)).di i = addAll P.n (T.map (·.2) ++ [recP P]) i
    have e1 : addAll P.n (T.map (·.2) ++ [recP P]) = addDi P.n (addAll P.n (T.map (·.2))) (recP P) := by
      unfold addAll; rw [List.foldl_append]; rfl
    have e2 := done_di P.ch P.n 0 (putC P (recP P)) i
    have e3 := addDi_prs P.n P.ch (addAll P.n (T.map (·.2))) P.n 0 (by omega) i
    rw [e1]
    show (doneP (putC P (recP P)) ((prsP P.ch 0 P.n).map fun p => ⟨p.1, p.2⟩)).di i = addDi P.n (addAll P.n (T.map (·.2))) ((prsP P.ch 0 P.n).map fun p => ⟨p.1, p.2⟩) i
    rw [e2, e3, if_pos (by omega), if_pos (by omega), ← hdi i hnn]
    rfl
theorem PlL.commit {P : Pl} {V : Nat → Pg} {k : Nat} {T : List (Nat × Rec)} (h : PlL P T) (hi : PlI P V k) (hk : k ≤ 900000) (hn : P.n ≤ 2048) : ∃ T', PlL (commitP P).2 T' := by
  by_cases h0 : (recP P).length = 0
  · have e : commitP P = (0, P) := by unfold commitP; rw [if_pos h0]
    rw [e]; exact ⟨T, h⟩
  by_cases h60 : 60 < (recP P).length
  · have e : commitP P = (3, P) := by unfold commitP; rw [if_neg h0, if_pos h60]
    rw [e]; exact ⟨T, h⟩
  by_cases hsz : (P.G.size : Int) < needW ((recP P).length : Int)
  · have e : commitP P = (8, P) := by unfold commitP; rw [if_neg h0, if_neg h60, if_pos hsz]
    rw [e]; exact ⟨T, h⟩
  have hroom : (roomR P).1 = 0 ∧ PlI (roomR P).2 V (k + 1) ∧ recP (roomR P).2 = recP P ∧ needW ((recP P).length : Int) ≤ (((roomR P).2.G.size - (roomR P).2.G.at_ : Nat) : Int) ∧ (roomR P).2.n = P.n ∧ ∃ T2, PlL (roomR P).2 T2 := by
    unfold roomR
    split
    · obtain ⟨s1, s2, s3, s4, s5, s6, s7, s8⟩ := hi.settle (by omega)
      refine ⟨s1, s2, by unfold recP; rw [s5, s6], ?_, s6, [], h.settle hi (by omega) hn⟩
      rw [s4]
      show _ ≤ ((P.G.size - 0 : Nat) : Int)
      omega
    · rename_i hr
      exact ⟨rfl, hi.up (by omega), rfl, Int.not_lt.1 hr, rfl, T, h⟩
  obtain ⟨r1, r2, r3, r4, r6, T2, hT2⟩ := hroom
  have hck := commit_keep r2 (by omega) (by rw [r6]; exact hn) (by rw [r3]; exact h0) (by rw [r3]; exact h60) (by rw [r3]; exact r4)
  have hpt := hT2.put r2 (by omega) (by rw [r6]; exact hn) (by rw [r3]; exact h0) (by rw [r3]; exact h60) (by rw [r3]; exact r4)
  rw [r3] at hck hpt
  have e : commitP P = (0, { doneP (putC (roomR P).2 (recP P)) (recP P) with ch := noP }) := by
    unfold commitP
    rw [if_neg h0, if_neg h60, if_neg hsz, if_pos r1, if_pos hck.1]
  rw [e]
  exact ⟨_, hpt⟩
theorem addDi_big {N i : Nat} (hi : N ≤ i) : ∀ (R : Rec) (c : PgM), (∀ h ∈ R, 0 ≤ h.num) → addDi N c R i = c i
  | [], c, _ => rfl
  | h :: R, c, hR => by
    have h0 := hR h (List.mem_cons_self ..)
    have ih := addDi_big hi R (if h.num < (N : Int) then updP c h.num.toNat (some h.page) else c) fun x hx => hR x (List.mem_cons_of_mem _ hx)
    show addDi N (if h.num < (N : Int) then updP c h.num.toNat (some h.page) else c) R i = c i
    rw [ih]
    split
    · unfold updP
      rw [if_neg (by omega)]
    · rfl
theorem addAll_big {N i : Nat} (hi : N ≤ i) : ∀ (S : List Rec) (c : PgM), (∀ r ∈ S, ∀ h ∈ r, 0 ≤ h.num) → S.foldl (addDi N) c i = c i
  | [], c, _ => rfl
  | r :: S, c, hS => by
    have ih := addAll_big hi S (addDi N c r) fun x hx => hS x (List.mem_cons_of_mem _ hx)
    show S.foldl (addDi N) (addDi N c r) i = c i
    rw [ih, addDi_big hi r c (hS r (List.mem_cons_self ..))]
theorem PlL.reopen {P : Pl} {V : Nat → Pg} {k : Nat} {T : List (Nat × Rec)} (h : PlL P T) (hi : PlI P V k) (hk : k ≤ 900000) {fr : Nat} (h2 : 2 ≤ fr) (hm : fr ≤ 100) :
    openE P.D (P.G.size : Int) = 0 ∧ ¬ cntP P.D.V.length (P.G.size : Int) < 4 ∧ saveE P.D (hdC (readD P.D 0) + 1) (hdS (readD P.D 0)) = true ∧ (openR P.D P.G.size fr).1 = 0 ∧ PlI (openR P.D P.G.size fr).2 V (k + 2) ∧ (openR P.D P.G.size fr).2.n = P.n ∧ (openR P.D P.G.size fr).2.ch = noP ∧ (openR P.D P.G.size fr).2.D.V.length = P.D.V.length ∧ (openR P.D P.G.size fr).2.fr = fr ∧ (openR P.D P.G.size fr).2.di = noP ∧ (openR P.D P.G.size fr).2.G.size = P.G.size := by
  have hlg := hi.ok.lg
  have hct := hi.ct
  have hn4 := hi.ok.n4
  have hcn : ¬ cntP P.D.V.length (P.G.size : Int) < 4 := by
    have : P.n = cntP P.D.V.length (P.G.size : Int) := rfl
    omega
  have hfitc := cntP_fit (Nat.not_lt.1 hcn)
  obtain ⟨e1, e2, e3⟩ := open_head (D := P.D) (c := P.G.count) (s := P.G.since) (n := (P.G.size : Int)) (decide_eq_true (by rw [Int.toNat_natCast] at hfitc; omega)) h.head hlg.s1 hlg.sc (by omega)
  obtain ⟨a1, a2, a3, a4⟩ := save_alive hi.al (P.G.count + 1) P.G.since
  have hHG : headG P.D (P.G.size : Int) = ⟨P.G.count, P.G.since, P.G.size, 0, 0, false⟩ := by rw [headG, e2, e3, Int.toNat_natCast]
  have hrec : recsOf P.D (headG P.D (P.G.size : Int)) = T.map (·.2) := by
    rw [hHG, recsOf]
    exact h.inv.recs hlg.cm hlg.szm
  have hok0 := openP0_ok h.dk (n := P.G.size) (fr := fr) e1 (Nat.not_lt.1 hcn) h2 hm
  have hall := recsOf_all (G := headG P.D (P.G.size : Int)) h.dk (by rw [hHG]; exact hlg.fit)
  have hn0 : (openP0 P.D P.G.size fr).n = P.n := openP0_n _ _ _
  have hdi0 : (openP0 P.D P.G.size fr).di = addAll P.n (T.map (·.2)) := by
    unfold openP0; dsimp only; rw [hrec]; rfl
  have hD0 : (openP0 P.D P.G.size fr).D = saveD P.D (P.G.count + 1) P.G.since := by unfold openP0; dsimp only; rw [e2, e3]
  have hi0 : PlI (openP0 P.D P.G.size fr) V (k + 1) := by
    refine ⟨hok0, by rw [hD0]; exact a2, rfl, rfl, ?_, fun i b hb => ?_, (fun c hc => nomatch hc), fun i hin hd => ?_, fun i hin => hi.ln i (by rw [← hn0]; exact hin)⟩
    · show hdC (readD P.D 0) + 1 ≤ k + 1
      rw [e2]; omega
    · rw [hdi0] at hb
      by_cases hin : i < P.n
      · rw [← h.di i hin] at hb
        exact hi.dn i b hb
      · have hbig := addAll_big (Nat.not_lt.1 hin) (T.map (·.2)) noP (by rw [← hrec]; exact fun r hr c hc => (hall.2.2 r hr).num c hc)
        unfold addAll at hb
        rw [hbig] at hb
        cases hb
    · rw [hn0] at hin
      rw [hdi0, ← h.di i hin] at hd
      have hr := (n_room hi.ok hin).1
      have hpg := hi.pg i hin hd
      show pageD (openP0 P.D P.G.size fr).D (1 + P.G.size + i * 4) = V i
      rw [hD0, ← hpg]
      exact page_four fun j hj => by rw [a4 _ (by omega), if_neg (by omega)]
  refine ⟨e1, hcn, by rw [e2, e3]; exact a1, ?_⟩
  unfold openR
  by_cases hS : (recsOf P.D (headG P.D (P.G.size : Int))).length = 0
  · rw [if_pos hS]
    exact ⟨rfl, hi0.up (by omega), hn0, rfl, by show (openP0 _ _ _).D.V.length = _; rw [hD0, a3], rfl, by
      rw [hdi0, ← hrec, List.eq_nil_of_length_eq_zero hS]; rfl, rfl⟩
  · rw [if_neg hS]
    have hch : (prsP (openP0 P.D P.G.size fr).ch 0 (openP0 P.D P.G.size fr).n).length = 0 := by
      have e : ∀ m a, prsP noP a m = [] := fun m => by
        induction m with
        | zero => intro a; rfl
        | succ m ih => intro a; rw [prsP]; exact ih (a + 1)
      show (prsP noP 0 _).length = 0
      rw [e]; rfl
    obtain ⟨s1, s2, s3, s4, s5, s6, s7, s8⟩ := hi0.settle (by omega)
    have hc := hi0.check (by omega)
    have ec : checkR (openP0 P.D P.G.size fr) = ((settleR (openP0 P.D P.G.size fr)).1, keepR (settleR (openP0 P.D P.G.size fr)).1 (settleR (openP0 P.D P.G.size fr)).2) := by unfold checkR; rw [if_pos hch]
    refine ⟨by rw [ec]; exact s1, hc.1, hc.2.1.trans hn0, ?_, ?_, hc.2.2, by rw [ec]; exact s3, by rw [ec]; show (settleR _).2.G.size = _; rw [s4]; rfl⟩
    · rw [ec]; show (settleR _).2.ch = noP; rw [s5]; rfl
    · rw [ec]; show (settleR _).2.D.V.length = _; rw [s8, hD0, a3]
end Go.Proofs.YtielfpkjoidomaaGreat
namespace Go.Proofs.YtielfpkjoidomaaGreat
open Go Go.RowKit Coup
structure TH where
  Z : World → List Nat → Prop
  t : Thing Z
def Parts : List TH → World → List Nat → Prop
  | [], _, C => C = []
  | X :: l, w, C => ∃ B E, C = B ++ E ∧ X.Z w B ∧ Parts l w E ∧ ∀ b ∈ B, b ∉ E
theorem parts_kpd : ∀ (l : List TH) {w w' : World} {B M : List Nat}, Parts l w B → Kp M w w' → (∀ b ∈ B, b ∉ M) → Parts l w' B
  | [], _, _, _, _, h, _, _ => h
  | X :: l, w, w', B, M, ⟨B1, E, e, h1, h2, h3⟩, k, hM => ⟨B1, E, e, X.t.kpd h1 k fun b hb => hM b (by rw [e]; exact List.mem_append_left _ hb), parts_kpd l h2 k fun b hb => hM b (by rw [e]; exact List.mem_append_right _ hb), h3⟩
theorem parts_lt : ∀ (l : List TH) {w : World} {B : List Nat}, Parts l w B → ∀ b ∈ B, b < w.heap.size
  | [], _, _, h, b, hb => by rw [h] at hb; cases hb
  | X :: l, w, B, ⟨B1, E, e, h1, h2, h3⟩, b, hb => by
    rw [e] at hb
    exact (List.mem_append.1 hb).elim (X.t.lt h1 b) (parts_lt l h2 b)
instance (l : List TH) : Thing (Parts l) := ⟨fun h k hM => parts_kpd l h k hM, fun h b hb => parts_lt l h b hb⟩
theorem parts_perm {l l' : List TH} (hp : l.Perm l') : ∀ {w : World} {C : List Nat}, Parts l w C → ∃ C', Parts l' w C' ∧ ∀ b, b ∈ C' ↔ b ∈ C := by
  induction hp with
  | nil => intro w C h; exact ⟨C, h, fun b => Iff.rfl⟩
  | cons X _ ih =>
    intro w C ⟨B, E, e, h1, h2, h3⟩
    obtain ⟨E', h4, h5⟩ := ih h2
    exact ⟨B ++ E', ⟨B, E', rfl, h1, h4, fun b hb hm => h3 b hb ((h5 b).1 hm)⟩, fun b => by rw [e]; simp [h5]⟩
  | swap X Y l =>
    intro w C ⟨B, E, e, h1, ⟨B2, E2, e2, h2, h4, h5⟩, h3⟩
    subst e2
    refine ⟨B2 ++ (B ++ E2), ⟨B2, B ++ E2, rfl, h2, ⟨B, E2, rfl, h1, h4, fun b hb hm => h3 b hb (List.mem_append_right _ hm)⟩, fun b hb hm => ?_⟩, fun b => ?_⟩
    · exact (List.mem_append.1 hm).elim (fun hm => h3 b hm (List.mem_append_left _ hb)) (h5 b hb)
    · rw [e]
      simp only [List.mem_append]
      constructor
      · rintro (h | h | h)
        · exact .inr (.inl h)
        · exact .inl h
        · exact .inr (.inr h)
      · rintro (h | h | h)
        · exact .inr (.inl h)
        · exact .inl h
        · exact .inr (.inr h)
  | trans _ _ ih1 ih2 =>
    intro w C h
    obtain ⟨C1, h1, e1⟩ := ih1 h
    obtain ⟨C2, h2, e2⟩ := ih2 h1
    exact ⟨C2, h2, fun b => (e2 b).trans (e1 b)⟩
structure AtZ (l : List TH) (lo : Nat) (L : List Nat) (w : World) : Prop where
  ex : ∃ C, Parts l w C ∧ ∀ b ∈ C, lo ≤ b ∧ b ∉ L
  lo : lo ≤ w.heap.size
  lt : ∀ b ∈ L, b < w.heap.size
namespace AtZ
variable {l l' : List TH} {X : TH} {lo : Nat} {L L2 : List Nat} {w w' : World}
theorem perm (h : AtZ l lo L w) (hp : l.Perm l') : AtZ l' lo L w := by
  obtain ⟨⟨C, h1, h2⟩, h3, h4⟩ := h
  obtain ⟨C', h5, h6⟩ := parts_perm hp h1
  exact ⟨⟨C', h5, fun b hb => h2 b ((h6 b).1 hb)⟩, h3, h4⟩
theorem two (h : AtZ (X :: l) lo L w) : Two X.Z (Parts l) lo L w := by
  obtain ⟨⟨C, ⟨B, E, e, h1, h2, h3⟩, h4⟩, h5, h6⟩ := h
  subst e
  exact ⟨⟨B, E, h1, h2, fun b hb => ⟨(h4 b (List.mem_append_left _ hb)).1, h3 b hb, (h4 b (List.mem_append_left _ hb)).2⟩, fun b hb => h4 b (List.mem_append_right _ hb)⟩, h5, h6⟩
theorem weak (h : AtZ l lo L w) (h2 : ∀ b ∈ L2, b ∈ L) : AtZ l lo L2 w := by
  obtain ⟨⟨C, h1, h3⟩, h4, h5⟩ := h
  exact ⟨⟨C, h1, fun b hb => ⟨(h3 b hb).1, fun hm => (h3 b hb).2 (h2 b hm)⟩⟩, h4, fun b hb => h5 b (h2 b hb)⟩
theorem kpd {M : List Nat} (h : AtZ l lo L w) (k : Kp M w w') (hM : ∀ b ∈ M, b < lo ∨ b ∈ L) : AtZ l lo L w' := by
  obtain ⟨⟨C, h1, h3⟩, h4, h5⟩ := h
  exact ⟨⟨C, parts_kpd l h1 k fun b hb hm => (hM b hm).elim (fun hl => absurd (h3 b hb).1 (Nat.not_le.2 hl)) (h3 b hb).2, h3⟩, Nat.le_trans h4 k.size, fun b hb => Nat.lt_of_lt_of_le (h5 b hb) k.size⟩
theorem new (h : AtZ l lo L w) (hb : Below w.heap.size w w') : AtZ l lo L w' := h.kpd (M := []) (Kp.of_below hb) (by simp)
theorem only {gc : Nat} (h : AtZ l lo L w) (ho : Only gc w w') (hg : gc < lo ∨ gc ∈ L) : AtZ l lo L w' := h.kpd (Kp.of_only ho) fun b hb => by rw [List.mem_singleton.1 hb]; exact hg
theorem newc {gc : Nat} (h : AtZ l lo L w) (hb : Below w.heap.size w w') (hg : w.heap.size ≤ gc) (hg' : gc < w'.heap.size) : AtZ l lo (gc :: L) w' := by
  have h2 := h.new hb
  obtain ⟨⟨C, h1, h3⟩, h4, h5⟩ := h
  obtain ⟨⟨C', h6, h7⟩, h8, h9⟩ := h2
  refine ⟨⟨C, parts_kpd l h1 (M := []) (Kp.of_below hb) (fun _ _ => by simp), fun b hm => ⟨(h3 b hm).1, fun hx => ?_⟩⟩, h8, fun b hm => ?_⟩
  · rcases List.mem_cons.1 hx with rfl | hx
    · exact absurd (parts_lt l h1 _ hm) (Nat.not_lt.2 hg)
    · exact (h3 b hm).2 hx
  · rcases List.mem_cons.1 hm with rfl | hm
    · exact hg'
    · exact h9 b hm
end AtZ
abbrev dzT (g : Nat) (D : Dk) : TH := ⟨DZ g D, inferInstance⟩
def PR (g q : Nat) (P : Pl) : World → List Nat → Prop := fun w C => ∃ x mc md cv, C = x :: (cv.ownBlock.toList ++ [q, mc, md]) ∧ Coup.row w x (lgV g P.G) 109 ∧
  Coup.row w q (plV g x P.G.size P.fr mc md cv P.dead) 54 ∧ MapAt Tryz.prog 3 w mc P.n (mapV P.ch) ∧ MapAt Tryz.prog 3 w md P.n (mapV P.di) ∧ ownsAt w 0 73 513 cv P.cl.length (chsV P.cl) ∧
  x ∉ cv.ownBlock.toList ++ [q, mc, md] ∧ q ≠ mc ∧ q ≠ md ∧ mc ≠ md ∧ ∀ b ∈ cv.ownBlock.toList, b ≠ q ∧ b ≠ mc ∧ b ≠ md
instance (g q : Nat) (P : Pl) : Thing (PR g q P) :=
  ⟨fun {w w' B M} ⟨x, mc, md, cv, e, h2, h3, h4, h5, h6, h7⟩ k hM => by
    subst e
    exact ⟨x, mc, md, cv, rfl, h2.kpd k (hM x (by simp)), h3.kpd k (hM q (by simp)), h4.kpd k (hM mc (by simp)), h5.kpd k (hM md (by simp)), h6.kpd k (fun b hb e => hM b (by simp [e]) hb), h7⟩,
   fun {w B} ⟨x, mc, md, cv, e, h2, h3, h4, h5, h6, h7⟩ b hb => by
    subst e
    simp only [List.mem_append, List.mem_cons, List.not_mem_nil, or_false] at hb
    rcases hb with rfl | hb | rfl | rfl | rfl
    · exact h2.lt
    · exact (h6.lt b (Option.mem_toList.1 hb)).2
    · exact h3.lt
    · exact h4.lt
    · exact h5.lt⟩
abbrev prT (g q : Nat) (P : Pl) : TH := ⟨PR g q P, inferInstance⟩
section
variable {g q lo : Nat} {L : List Nat} {P : Pl} {w w' : World} {l : List TH}
theorem pr_D {D : Dk} (h : D.V.length = P.D.V.length) : PR g q { P with D := D } = PR g q P := by
  have hn : ({ P with D := D } : Pl).n = P.n := by unfold Pl.n; dsimp only; rw [h]
  unfold PR
  rw [hn]
theorem pr_open (h : AtZ (dzT g P.D :: prT g q P :: l) lo L w) : ∃ x mc md cv, PlAt g x q mc md cv cv (Parts l) lo L P w := by
  obtain ⟨⟨C, ⟨BD, E0, e0, h1, ⟨B1, E, e1, ⟨x, mc, md, cv, e, h2, h3, h4, h5, h6, h8, h9, h10, h11, h12⟩, hl, hd2⟩, hd1⟩, hC⟩, hlo, hL⟩ := h
  subst e1 e0
  have hmem : ∀ b, b ∈ B1 ↔ b = x ∨ b ∈ cv.ownBlock.toList ∨ b = q ∨ b = mc ∨ b = md := fun b => by
    rw [e]; simp only [List.mem_cons, List.mem_append, List.not_mem_nil, or_false]
  have hB1 : ∀ b ∈ B1, lo ≤ b ∧ b ∉ L ∧ b ∉ E := fun b hb => ⟨(hC b (by simp [hb])).1, (hC b (by simp [hb])).2, hd2 b hb⟩
  have hx := hB1 x ((hmem x).2 (.inl rfl))
  have hq := hB1 q ((hmem q).2 (.inr (.inr (.inl rfl))))
  have hm := hB1 mc ((hmem mc).2 (.inr (.inr (.inr (.inl rfl)))))
  have hdd := hB1 md ((hmem md).2 (.inr (.inr (.inr (.inr rfl)))))
  have hcv := fun b (hb : b ∈ cv.ownBlock.toList) => hB1 b ((hmem b).2 (.inr (.inl hb)))
  refine ⟨x, mc, md, cv, ⟨⟨⟨BD, E, h1, hl, fun b hb => ⟨(hC b (by simp [hb])).1, fun hE => hd1 b hb (by simp [hE]), fun hx2 => ?_⟩, fun b hb => ⟨(hC b (by simp [hb])).1, fun hx2 => ?_⟩⟩, hlo, fun b hx2 => ?_⟩, h2, hx.1, fun hx2 => ?_⟩, h3, h4, h5, h6, h9, h10, h11, fun b hb => ⟨(h12 b hb).1, (h12 b hb).2.1, (h12 b hb).2.2, (hcv b hb).1, (hcv b hb).2.1⟩, ⟨hq.1, hq.2.1⟩, ⟨hm.1, hm.2.1⟩, ⟨hdd.1, hdd.2.1⟩⟩
  · simp only [List.mem_cons, List.mem_append] at hx2
    have hb1 : b ∉ B1 := fun hm2 => hd1 b hb (by simp [hm2])
    rw [hmem] at hb1
    rcases hx2 with h | h | h | h | h | h
    · exact hb1 (.inl h)
    · exact hb1 (.inr (.inl h))
    · exact hb1 (.inr (.inr (.inl h)))
    · exact hb1 (.inr (.inr (.inr (.inl h))))
    · exact hb1 (.inr (.inr (.inr (.inr h))))
    · exact (hC b (by simp [hb])).2 h
  · simp only [List.mem_cons, List.mem_append] at hx2
    rcases hx2 with h | h | h | h | h | h
    · subst h; exact hx.2.2 hb
    · exact (hcv b h).2.2 hb
    · subst h; exact hq.2.2 hb
    · subst h; exact hm.2.2 hb
    · subst h; exact hdd.2.2 hb
    · exact (hC b (by simp [hb])).2 h
  · simp only [List.mem_cons, List.mem_append] at hx2
    rcases hx2 with h | h | h | h | h | h
    · subst h; exact h2.lt
    · exact (h6.lt b (Option.mem_toList.1 h)).2
    · subst h; exact h3.lt
    · subst h; exact h4.lt
    · subst h; exact h5.lt
    · exact hL b h
  · simp only [List.mem_append, List.mem_cons, List.not_mem_nil, or_false, not_or] at h8 hx2
    rcases hx2 with h | h | h | h | h
    · exact h8.1 h
    · exact h8.2.1 h
    · exact h8.2.2.1 h
    · exact h8.2.2.2 h
    · exact hx.2.1 h
theorem pr_close {x mc md : Nat} {cv : Value} (h : PlAt g x q mc md cv cv (Parts l) lo L P w) : AtZ (dzT g P.D :: prT g q P :: l) lo L w := by
  have hxn := h.xne
  obtain ⟨⟨⟨⟨BD, E, h1, hE, hB, hE2⟩, hl, hL⟩, h2, h2l, h2n⟩, h3, h4, h5, h6, h9, h10, h11, h12, hq, hm, hd⟩ := h
  have hn : ∀ b, b ∈ E → b ∉ x :: (cv.ownBlock.toList ++ q :: mc :: md :: L) := fun b hb => (hE2 b hb).2
  refine ⟨⟨BD ++ ((x :: (cv.ownBlock.toList ++ [q, mc, md])) ++ E), ⟨BD, _, rfl, h1, ⟨_, E, rfl, ⟨x, mc, md, cv, rfl, h2, h3, h4, h5, h6, ?_, h9, h10, h11, fun b hb => ⟨(h12 b hb).1, (h12 b hb).2.1, (h12 b hb).2.2.1⟩⟩, hE, fun b hb hm2 => hn b hm2 ?_⟩, fun b hb hm2 => ?_⟩, fun b hb => ?_⟩, hl, fun b hb => hL b (by simp [hb])⟩
  · simp only [List.mem_append, List.mem_cons, List.not_mem_nil, or_false, not_or]
    exact ⟨hxn.2.2.2.1, hxn.1, hxn.2.1, hxn.2.2.1⟩
  · simp only [List.mem_append, List.mem_cons, List.not_mem_nil, or_false] at hb ⊢
    rcases hb with h | h | h | h | h
    · exact .inl h
    · exact .inr (.inl h)
    · exact .inr (.inr (.inl h))
    · exact .inr (.inr (.inr (.inl h)))
    · exact .inr (.inr (.inr (.inr (.inl h))))
  · rcases List.mem_append.1 hm2 with hm2 | hm2
    · refine (hB b hb).2.2 ?_
      simp only [List.mem_append, List.mem_cons, List.not_mem_nil, or_false] at hm2 ⊢
      rcases hm2 with h | h | h | h | h
      · exact .inl h
      · exact .inr (.inl h)
      · exact .inr (.inr (.inl h))
      · exact .inr (.inr (.inr (.inl h)))
      · exact .inr (.inr (.inr (.inr (.inl h))))
    · exact (hB b hb).2.1 hm2
  · rcases List.mem_append.1 hb with hb | hb
    · exact ⟨(hB b hb).1, fun hm2 => (hB b hb).2.2 (by simp [hm2])⟩
    · rcases List.mem_append.1 hb with hb | hb
      · simp only [List.mem_append, List.mem_cons, List.not_mem_nil, or_false] at hb
        rcases hb with h | h | h | h | h
        · subst h; exact ⟨h2l, hxn.2.2.2.2⟩
        · exact ⟨(h12 b h).2.2.2.1, (h12 b h).2.2.2.2⟩
        · subst h; exact hq
        · subst h; exact hm
        · subst h; exact hd
      · exact ⟨(hE2 b hb).1, fun hm2 => hn b hb (by simp [hm2])⟩
theorem pr_lift {Pr : Program} {f : FuncId} {args : Array Value} {R : Value → Prop} {P' : Pl} (h : AtZ (dzT g P.D :: prT g q P :: l) lo L w)
    (hc : ∀ x mc md cv, PlAt g x q mc md cv cv (Parts l) lo L P w → Calls Pr f args w (Ret fun v w' => R v ∧ (∃ cv', PlAt g x q mc md cv' cv' (Parts l) lo L P' w') ∧ LoL lo L w w')) : Calls Pr f args w (Ret fun v w' => R v ∧ AtZ (dzT g P'.D :: prT g q P' :: l) lo L w' ∧ LoL lo L w w') := by
  obtain ⟨x, mc, md, cv, hP⟩ := pr_open h
  exact (hc x mc md cv hP).to fun v w' ⟨h1, ⟨cv', h2⟩, h3⟩ => ⟨h1, pr_close h2, h3⟩
end
section
variable {g q lo : Nat} {L : List Nat} {P : Pl} {V : Nat → Pg} {k : Nat} {w : World} {l : List TH}
theorem aGet (h : AtZ (dzT g P.D :: prT g q P :: l) lo L w) (hi : PlI P V k) (n : Int) : Calls Tryz.prog 17 [.pointer (some ⟨q, 0, none⟩), .int .i64 n].toArray w (Ret fun v w' => v = .tuple #[.agg (bv (gX P V n)).toArray, .int .i64 (rdE P n)] ∧ AtZ (dzT g (gP P n).D :: prT g q (gP P n) :: l) lo L w' ∧ LoL lo L w w') := by
  by_cases hn : inP P n
  · have hn2 := hn
    unfold inP at hn2
    obtain ⟨m, rfl⟩ : ∃ m : Nat, n = m := ⟨n.toNat, by omega⟩
    unfold gX rdE gP
    rw [if_pos hn, if_pos hn, if_pos hn, Int.toNat_natCast, ← hi.getX (by omega)]
    exact pr_lift h fun x mc md cv hP => getYes hP hi.ok hi.de m (by omega)
  · unfold gX gP
    rw [if_neg hn, if_neg hn, zeroP_bv]
    obtain ⟨x, mc, md, cv, hP⟩ := pr_open h
    have hr := rd_is hi.de n
    have hne : readyE P n ≠ 0 := by rw [hr]; unfold rdE; rw [if_neg hn]; omega
    have hg := getNo hP hi.ok.lg.szm n hne
    rw [hr] at hg
    exact hg.to fun v w' ⟨h1, h2⟩ => ⟨h1, h.new h2, LoL.of_below h2⟩
theorem aPut (h : AtZ (dzT g P.D :: prT g q P :: l) lo L w) (hi : PlI P V k) (n : Int) {X : Pg} (hX : X.length = 512) : Calls Tryz.prog 12 [.pointer (some ⟨q, 0, none⟩), .int .i64 n, .agg (bv X).toArray].toArray w (Ret fun v w' => v = .int .i64 (rdE P n) ∧ AtZ (dzT g (pP P n X).D :: prT g q (pP P n X) :: l) lo L w' ∧ LoL lo L w w') := by
  by_cases hn : inP P n
  · have hn2 := hn
    unfold inP at hn2
    obtain ⟨m, rfl⟩ : ∃ m : Nat, n = m := ⟨n.toNat, by omega⟩
    unfold rdE pP
    rw [if_pos hn, if_pos hn, Int.toNat_natCast]
    exact pr_lift h fun x mc md cv hP => putYes hP hi.ok hi.de m (by omega) X hX
  · unfold pP
    rw [if_neg hn]
    obtain ⟨x, mc, md, cv, hP⟩ := pr_open h
    have hr := rd_is hi.de n
    have hne : readyE P n ≠ 0 := by rw [hr]; unfold rdE; rw [if_neg hn]; omega
    have hg := putNo hP hi.ok.lg.szm n X hne
    rw [hr] at hg
    exact hg.to fun v w' ⟨h1, h2⟩ => ⟨h1, h.new h2, LoL.of_below h2⟩
theorem aCommit (h : AtZ (dzT g P.D :: prT g q P :: l) lo L w) (hi : PlI P V k) : Calls Tryz.prog 16 [.pointer (some ⟨q, 0, none⟩)].toArray w (Ret fun v w' => v = .int .i64 (commitP P).1 ∧ AtZ (dzT g (commitP P).2.D :: prT g q (commitP P).2 :: l) lo L w' ∧ LoL lo L w w') :=
  pr_lift h fun x mc md cv hP => commitYes hP hi.ok hi.de (short_of hi.al.short (by omega))
theorem aAbort (h : AtZ (dzT g P.D :: prT g q P :: l) lo L w) (hi : PlI P V k) : Calls Tryz.prog 14 [.pointer (some ⟨q, 0, none⟩)].toArray w (Ret fun v w' => v = .int .i64 0 ∧ AtZ (dzT g P.D :: prT g q { P with ch := noP } :: l) lo L w' ∧ LoL lo L w w') :=
  pr_lift (P' := { P with ch := noP }) h fun x mc md cv hP => (abortP hP hi.ok).to fun v w' ⟨h1, h2, h3⟩ => by
    rw [if_neg (by rw [hi.de]; simp)] at h1 h2
    exact ⟨h1, ⟨cv, h2⟩, h3⟩
theorem aChanged (h : AtZ (dzT g P.D :: prT g q P :: l) lo L w) : Calls Tryz.prog 15 [.pointer (some ⟨q, 0, none⟩)].toArray w (Ret fun v w' => NewI w (keysP P.ch P.n) v w' ∧ Below w.heap.size w w') := by
  obtain ⟨x, mc, md, cv, hP⟩ := pr_open h
  exact changedP hP
theorem aOpen {T : List (Nat × Rec)} (h : AtZ (dzT g P.D :: l) lo L w) (hi : PlI P V k) (hl : PlL P T) (hk : k ≤ 900000) (fr : Nat) (h2 : 2 ≤ fr) (hm : fr ≤ 100) :
    Calls Tryz.prog 18 [.pointer (some ⟨g, 0, none⟩), .int .i64 (P.G.size : Int), .int .i64 (fr : Int)].toArray w (Ret fun v w' => (∃ q, v = .tuple #[.pointer (some ⟨q, 0, none⟩), .int .i64 0] ∧ AtZ (dzT g (openR P.D P.G.size fr).2.D :: prT g q (openR P.D P.G.size fr).2 :: l) lo L w') ∧ LoL lo L w w') := by
  obtain ⟨r1, r2, r3, r4, _⟩ := hl.reopen hi hk h2 hm
  refine (openOk h.two P.G.size fr r2 ⟨h2, hm⟩ r1 (short_of hi.al.short (by omega)) r3).to fun v w' ⟨hh, k⟩ => ⟨?_, k⟩
  rcases hh with ⟨h1, _⟩ | ⟨_, x, q, mc, md, cv, e, hP⟩
  · exact absurd r4 h1
  · exact ⟨q, e, pr_close hP⟩
end
end Go.Proofs.YtielfpkjoidomaaGreat
namespace Go.Proofs.YtielfpkjoidomaaGreat
open Go Go.RowKit Coup Go.ChangeShapes Go.WideShapes Go.Deep
structure PStep where
  kind : Int
  n : Int
  many : Int
  b : List UInt8
def PsQ (W : World) (a : PStep) (cs : List Value) : Prop := ∃ q cp, cs = [.int .i64 a.kind, .int .i64 a.n, .int .i64 a.many, .slice q a.b.length cp] ∧ SlAt W q a.b.length 1 (bv a.b) ∧ wf64 a.kind ∧ wf64 a.n ∧ wf64 a.many
theorem psQ_opn {H : Type} {enc : TypeId × Value → H} {W : World} {base : Nat} {spare : Nat → Bool} {held : Bool} : Opn enc Tryz.prog W base spare held 33 (PsQ W) := fun fuel cs x h => by
  obtain ⟨hl, m, hf⟩ := opn_flds Tryz.underlying33 h
  have hl2 : cs.length = 4 := hl.trans (by kernel_rfl)
  obtain ⟨_, h0⟩ := fld hf 0 0 1 rfl rfl (by kernel_rfl)
  obtain ⟨_, h1⟩ := fld hf 1 1 1 rfl rfl (by kernel_rfl)
  obtain ⟨_, h2⟩ := fld hf 2 2 1 rfl rfl (by kernel_rfl)
  obtain ⟨_, h3⟩ := fld hf 3 3 1 rfl rfl (by kernel_rfl)
  obtain ⟨a, e0, w0⟩ := opn_int (by kernel_rfl) _ _ _ h0
  obtain ⟨b, e1, w1⟩ := opn_int (by kernel_rfl) _ _ _ h1
  obtain ⟨c, e2, w2⟩ := opn_int (by kernel_rfl) _ _ _ h2
  obtain ⟨R, q, cp, e3, hcp, hR⟩ := opn_slice (e := 5) (n := 1) (by kernel_rfl) (by kernel_rfl) (opn_int (k := .u8) (by kernel_rfl)) _ _ _ h3
  obtain ⟨l, hll, hl4⟩ := u8_of_els hR
  refine ⟨⟨a, b, c, l⟩, q, cp, ?_, by rw [hll]; exact hl4, i64_of_wf w0, i64_of_wf w1, i64_of_wf w2⟩
  have k0 := cut_at cs 0 1
  have k1 := cut_at cs 1 1
  have k2 := cut_at cs 2 1
  have k3 := cut_at cs 3 1
  rw [e0] at k0
  rw [e1] at k1
  rw [e2] at k2
  rw [e3, List.drop_of_length_le (l := cs) (i := 3 + 1) (by omega), List.append_nil] at k3
  rw [k3] at k2
  rw [k2] at k1
  rw [k1] at k0
  rw [List.drop_zero] at k0
  rw [hll]
  exact k0
theorem openRowsP {H : Type} {enc : TypeId × Value → H} {W : World} {a : Option Addr} {len cap : Nat} {d : DataW H} {p : List MemPlace} (h : DataW.Trod enc Tryz.prog W 0 (fun _ => true) true 22 (.slice a len cap) d p) : (∃ R, ElsAt (PsQ W) W 4 a len R) ∧ len ≤ cap :=
  opn_arg (by kernel_rfl) (by kernel_rfl) psQ_opn h
theorem PsQ.below {w w' : World} {a : PStep} {cs : List Value} (h : PsQ w a cs) (hb : Below w.heap.size w w') : PsQ w' a cs := by
  obtain ⟨q, cp, h1, h2, h3⟩ := h
  exact ⟨q, cp, h1, h2.below hb (Nat.le_refl _), h3⟩
def fewP (R : List PStep) (most : Nat) : Prop := R.length ≤ most ∧ ∀ a ∈ R, a.b.length ≤ 600
set_option maxRecDepth 20000 in
theorem few06 (p : Option Addr) (n cp most : Nat) (R : List PStep) (w : World) (h : ElsAt (PsQ w) w 4 p n R) (hm : most ≤ 1000) :
    Calls Tryz.prog 9 [.slice p n cp, .int .i64 (most : Int)].toArray w (Ret fun v w' => ∃ B : Bool, v = .bool B ∧ (B = true → fewP R most) ∧ w = w') := by
  have hmax := h.max
  have hml : maxLen = 9223372036854775807 := by decide
  have hRl := h.1
  refine calls_W (fn := Tryz.f9) (rs := [.tmp 4]) (n := 28) Tryz.func9 rfl rfl Tryz.ntmps9 (by kernel_rfl) rfl ?_
  refine W_seq ?_
  refine W_region ?_
  refine WR_val rfl (rn_assign) ?_
  refine WR_nil ?_
  refine thenN ?_
  refine W_seq ?_
  refine W_seq ?_
  refine W_region ?_
  refine WR_val rfl (rn_assign) ?_
  refine WR_nil ?_
  refine thenN ?_
  refine W_block ?_
  refine W_loop (α := Nat) 0 (fun i => [(5, .int .i64 (i : Nat)), (0, .slice p n cp), (1, .int .i64 (most : Int))]) (fun i w' => i ≤ n ∧ (∀ (j : Nat) (a : PStep), j < i → R[j]? = some a → a.b.length ≤ 600) ∧ w = w') (fun i => n - i)
    ⟨rfl, rfl, rfl, rfl⟩ ⟨Nat.zero_le _, (by intro j x hj; exact absurd hj (Nat.not_lt_zero _)), rfl⟩ ?_
  rintro i f wr ⟨hi, hall, rfl⟩
  refine W_seq ?_
  refine W_seq ?_
  refine W_region ?_
  refine WR_val rfl (rn_move) ?_
  refine WR_val rfl (rn_move) ?_
  refine WR_val rfl (rn_lenSl (e := 33) (sz := 4) (by kernel_rfl) rfl rfl) ?_
  refine WR_val rfl (rn_lss rfl rfl) ?_
  refine WR_val rfl (rn_move) ?_
  refine WR_part 10 rfl (fun hlt => ?_) (fun hlt => ?_)
  ·
    refine WR_yes rfl ?_
    refine WR_val rfl (rn_move) ?_
    refine WR_yes rfl ?_
    refine WR_val rfl (rn_move) ?_
    refine WR_yes rfl ?_
    refine WR_val rfl (rn_leq rfl rfl) ?_
    refine WR_val rfl (rn_pick_t rfl) ?_
    refine WR_nil ?_
    refine thenN ?_
    refine W_ifp rfl (fun hle => ?_) (fun hle => ?_)
    ·
      refine W_skip ?_
      refine thenN ?_
      refine W_seq ?_
      refine W_block ?_
      refine W_seq ?_
      have hobt := h.get (i := i) (by omega)
      obtain ⟨a, hx⟩ := hobt
      have hobt := h.some (by omega)
      obtain ⟨gp, op, rfl, _⟩ := hobt
      have hle := h.el hx
      obtain ⟨cs, ⟨q, c1, rfl, hq1, _⟩, hcl, hce⟩ := hle
      refine W_region ?_
      refine WR_val rfl (rn_move) ?_
      refine WR_val rfl (rn_move) ?_
      refine WR_val rfl (rn_indexSl (e := 33) (sz := 4) (by kernel_rfl) rfl rfl (i) (by omega) (by omega)) ?_
      refine WR_val rfl (rn_fieldAddr (off := 3) (by kernel_rfl) rfl) ?_
      refine WR_val rfl (rn_load rfl (Ld.one (by kernel_rfl) (hce 3 _ rfl))) ?_
      refine WR_val rfl (rn_lenSl (e := 5) (sz := 1) (by kernel_rfl) rfl rfl) ?_
      refine WR_val rfl (rn_gtr rfl rfl) ?_
      refine WR_nil ?_
      refine thenN ?_
      refine W_ifp rfl (fun h600 => ?_) (fun h600 => ?_)
      ·
        refine W_seq ?_
        refine W_region ?_
        refine WR_val rfl (rn_assign) ?_
        refine WR_nil ?_
        refine thenN ?_
        refine W_ret ?_
        refine blockR ?_
        refine thenR ?_
        refine loopR ?_
        refine blockR ?_
        refine thenR ?_
        refine ret_ret [_] ⟨rfl, trivial⟩ ?_
        exact ⟨false, rfl, by simp, rfl⟩
      ·
        refine W_skip ?_
        refine blockN ?_
        refine thenN ?_
        refine W_region ?_
        refine WR_val rfl (rn_move) ?_
        refine WR_val rfl (rn_add rfl rfl (Coup.w64 (by omega))) ?_
        refine WR_val rfl (rn_assign) ?_
        refine WR_nil ?_
        refine loopN ⟨i + 1, by omega, ⟨by go_num, rfl, rfl, rfl⟩, by omega, fun j y hj hy => ?_, rfl⟩
        by_cases hjk : j < i
        · exact hall j y hjk hy
        · obtain rfl : j = i := by omega
          rw [hx] at hy; cases hy; omega
    ·
      have hno : most < i := by omega
      refine W_exit ?_
      refine thenX ?_
      refine loopX ?_
      refine blockX ?_
      refine thenN ?_
      refine W_seq ?_
      refine W_region ?_
      refine WR_val rfl (rn_move) ?_
      refine WR_val rfl (rn_lenSl (e := 33) (sz := 4) (by kernel_rfl) rfl rfl) ?_
      refine WR_val rfl (rn_move) ?_
      refine WR_val rfl (rn_leq rfl rfl) ?_
      refine WR_val rfl (rn_assign) ?_
      refine WR_nil ?_
      refine thenN ?_
      refine W_ret ?_
      refine ret_ret [_] ⟨rfl, trivial⟩ ?_
      exact ⟨false, by show Value.bool (decide _) = _; rw [decide_eq_false (by omega)], by simp, rfl⟩
  ·
    have hin : i = n := by omega
    subst hin
    refine WR_no rfl rfl ?_
    refine WR_no rfl rfl ?_
    refine WR_no rfl rfl ?_
    refine WR_val rfl (rn_pick_f rfl) ?_
    refine WR_nil ?_
    refine thenN ?_
    refine W_fb rfl (rfl) ?_
    refine W_exit ?_
    refine thenX ?_
    refine loopX ?_
    refine blockX ?_
    refine thenN ?_
    refine W_seq ?_
    refine W_region ?_
    refine WR_val rfl (rn_move) ?_
    refine WR_val rfl (rn_lenSl (e := 33) (sz := 4) (by kernel_rfl) rfl rfl) ?_
    refine WR_val rfl (rn_move) ?_
    refine WR_val rfl (rn_leq rfl rfl) ?_
    refine WR_val rfl (rn_assign) ?_
    refine WR_nil ?_
    refine thenN ?_
    refine W_ret ?_
    refine ret_ret [_] ⟨rfl, trivial⟩ ?_
    refine ⟨decide (R.length ≤ most), ?_, fun hd => ⟨of_decide_eq_true hd, fun a ha => ?_⟩, rfl⟩
    · show Value.bool (decide _) = Value.bool (decide _)
      congr 1
      rw [decide_eq_decide]
      rw [hRl]
      omega
    · obtain ⟨j, hj⟩ := List.getElem?_of_mem ha
      exact hall j a (by have := (List.getElem?_eq_some_iff.1 hj).1; omega) hj
set_option maxRecDepth 20000 in
theorem fits06 (a b : Int) (w : World) : Calls Tryz.prog 7 [.int .i64 a, .int .i64 b].toArray w (Ret fun v w' => v = .bool (decide ((4 ≤ a ∧ a ≤ 80) ∧ 4 ≤ b ∧ b ≤ 400)) ∧ w = w') := by
  refine calls_W (fn := Tryz.f7) (rs := [.tmp 4]) (n := 19) Tryz.func7 rfl rfl Tryz.ntmps7 (by kernel_rfl) rfl ?_
  refine W_seq ?_
  refine W_region ?_
  refine WR_val rfl (rn_assign) ?_
  refine WR_nil ?_
  refine thenN ?_
  refine W_seq ?_
  refine W_region ?_
  refine WR_val rfl (rn_move) ?_
  refine WR_val rfl (rn_geq rfl rfl) ?_
  refine WR_val rfl (rn_move) ?_
  refine WR_part 7 rfl (fun h1 => ?_) (fun h1 => ?_)
  ·
    refine WR_yes rfl ?_
    refine WR_val rfl (rn_move) ?_
    refine WR_yes rfl ?_
    refine WR_val rfl (rn_leq rfl rfl) ?_
    refine WR_val rfl (rn_pick_t rfl) ?_
    refine WR_val rfl (rn_move) ?_
    refine WR_part 11 rfl (fun h2 => ?_) (fun h2 => ?_)
    ·
      refine WR_yes rfl ?_
      refine WR_val rfl (rn_move) ?_
      refine WR_yes rfl ?_
      refine WR_val rfl (rn_geq rfl rfl) ?_
      refine WR_val rfl (rn_pick_t rfl) ?_
      refine WR_val rfl (rn_move) ?_
      refine WR_part 15 rfl (fun h3 => ?_) (fun h3 => ?_)
      ·
        refine WR_yes rfl ?_
        refine WR_val rfl (rn_move) ?_
        refine WR_yes rfl ?_
        refine WR_val rfl (rn_leq rfl rfl) ?_
        refine WR_val rfl (rn_pick_t rfl) ?_
        refine WR_val rfl (rn_assign) ?_
        refine WR_nil ?_
        refine thenN ?_
        refine W_ret ?_
        refine ret_ret [_] ⟨rfl, trivial⟩ ?_
        refine ⟨?_, rfl⟩
        show Value.bool (decide (b ≤ 400)) = _
        congr 1
        rw [decide_eq_decide]
        omega
      ·
        refine WR_no rfl rfl ?_
        refine WR_no rfl rfl ?_
        refine WR_val rfl (rn_pick_f rfl) ?_
        refine WR_val rfl (rn_assign) ?_
        refine WR_nil ?_
        refine thenN ?_
        refine W_ret ?_
        refine ret_ret [_] ⟨rfl, trivial⟩ ?_
        exact ⟨by rw [decide_eq_false (show ¬ ((4 ≤ a ∧ a ≤ 80) ∧ 4 ≤ b ∧ b ≤ 400) by omega)]; rfl, rfl⟩
    ·
      refine WR_no rfl rfl ?_
      refine WR_no rfl rfl ?_
      refine WR_val rfl (rn_pick_f rfl) ?_
      refine WR_val rfl (rn_move) ?_
      refine WR_no rfl rfl ?_
      refine WR_no rfl rfl ?_
      refine WR_val rfl (rn_pick_f rfl) ?_
      refine WR_val rfl (rn_assign) ?_
      refine WR_nil ?_
      refine thenN ?_
      refine W_ret ?_
      refine ret_ret [_] ⟨rfl, trivial⟩ ?_
      exact ⟨by rw [decide_eq_false (show ¬ ((4 ≤ a ∧ a ≤ 80) ∧ 4 ≤ b ∧ b ≤ 400) by omega)]; rfl, rfl⟩
  ·
    refine WR_no rfl rfl ?_
    refine WR_no rfl rfl ?_
    refine WR_val rfl (rn_pick_f rfl) ?_
    refine WR_val rfl (rn_move) ?_
    refine WR_no rfl rfl ?_
    refine WR_no rfl rfl ?_
    refine WR_val rfl (rn_pick_f rfl) ?_
    refine WR_val rfl (rn_move) ?_
    refine WR_no rfl rfl ?_
    refine WR_no rfl rfl ?_
    refine WR_val rfl (rn_pick_f rfl) ?_
    refine WR_val rfl (rn_assign) ?_
    refine WR_nil ?_
    refine thenN ?_
    refine W_ret ?_
    refine ret_ret [_] ⟨rfl, trivial⟩ ?_
    exact ⟨by rw [decide_eq_false (show ¬ ((4 ≤ a ∧ a ≤ 80) ∧ 4 ≤ b ∧ b ≤ 400) by omega)]; rfl, rfl⟩
end Go.Proofs.YtielfpkjoidomaaGreat
namespace Go.Proofs.YtielfpkjoidomaaGreat
open Go Go.RowKit Coup
section
variable {X : World → List Nat → Prop} [Thing X] {q lo : Nat} {L : List Nat} {P : Pl} {V : Nat → Pg} {k : Nat} {w : World}
theorem sl_lo {w' : World} {p : Option Addr} {m sz : Nat} {cs : List Value} {L : List Nat} (h : SlAt w p m sz cs) (hz : 0 < sz) (hk : LoL w.heap.size L w w') : SlAt w' p m sz cs :=
  sl_kp0 h hk.kp fun h0 b o e => notLL (.inl (by
    obtain ⟨g, o', e2, hl⟩ := h.some (Nat.mul_pos h0 hz)
    rw [e] at e2; cases e2; exact hl))
end
end Go.Proofs.YtielfpkjoidomaaGreat
namespace Go.Proofs.YtielfpkjoidomaaGreat
open Go Go.RowKit Coup
theorem prs_upd (c : PgM) (i : Nat) (o : Option Pg) : ∀ (m a : Nat), ((i < a ∨ a + m ≤ i) → prsP (updP c i o) a m = prsP c a m) ∧ (prsP (updP c i o) a m).length ≤ (prsP c a m).length + 1
  | 0, a => ⟨fun _ => rfl, Nat.zero_le _⟩
  | m + 1, a => by
    obtain ⟨ih1, ih2⟩ := prs_upd c i o m (a + 1)
    have e : prsP (updP c i o) a (m + 1) = (match updP c i o a with | some b => (a, b) :: prsP (updP c i o) (a + 1) m | none => prsP (updP c i o) (a + 1) m) := rfl
    have e2 : prsP c a (m + 1) = (match c a with | some b => (a, b) :: prsP c (a + 1) m | none => prsP c (a + 1) m) := rfl
    refine ⟨fun h => ?_, ?_⟩
    · have hne : ¬ a = i := by omega
      rw [e, e2, ih1 (by omega)]
      unfold updP
      rw [if_neg hne]
    · by_cases hai : a = i
      · rw [e, e2, ih1 (by omega)]
        cases updP c i o a with
        | some b =>
          cases c a with
          | some d => simp
          | none => simp
        | none =>
          cases c a with
          | some d => simp; omega
          | none => simp
      · rw [e, e2]
        have hu : updP c i o a = c a := by unfold updP; rw [if_neg hai]
        rw [hu]
        cases c a with
        | some d => simp only [List.length_cons]; omega
        | none => exact ih2
theorem rec_len (P : Pl) : (recP P).length = (keysP P.ch P.n).length := by unfold recP keysP; rw [prs_keys, List.length_map, List.length_map]
theorem pP_rec {P : Pl} (n : Int) (X : Pg) : (recP (pP P n X)).length ≤ (recP P).length + 1 := by
  unfold pP
  split
  · unfold recP
    rw [List.length_map, List.length_map]
    have hn : (putP P n.toNat X).n = P.n := (askP_same P n.toNat).2.2.2.2.2.2
    rw [hn]
    exact (prs_upd P.ch n.toNat _ P.n 0).2
  · omega
theorem needW3 {n : Nat} (h : n ≤ 3) : needW (n : Int) ≤ needW 3 := by
  unfold needW
  rw [if_pos (show (1 : Int) ≤ 3 ∧ (3 : Int) ≤ 60 by omega)]
  by_cases h0 : n = 0
  · rw [if_neg (by omega)]; omega
  · rw [if_pos (by omega), Int.toNat_natCast]
    have : needN (n * 516) ≤ needN (Int.toNat 3 * 516) := by
      have e : Int.toNat 3 = 3 := rfl
      rw [e]
      unfold needN manyN
      omega
    omega
theorem commit_size (P : Pl) : (commitP P).2.G.size = P.G.size ∧ (commitP P).2.D.V.length = P.D.V.length := by
  have hs := settle_len P
  have hr : (roomR P).2.G.size = P.G.size ∧ (roomR P).2.D.V.length = P.D.V.length := by
    unfold roomR
    split
    · exact ⟨hs.2.1, hs.1⟩
    · exact ⟨rfl, rfl⟩
  have hc := commitR_same (roomR P).2.D (roomR P).2.G (recP P)
  have hp : (putC (roomR P).2 (recP P)).G.size = P.G.size ∧ (putC (roomR P).2 (recP P)).D.V.length = P.D.V.length := ⟨hc.2.trans hr.1, hc.1.trans hr.2⟩
  have hd := doneP_same (recP P) (putC (roomR P).2 (recP P))
  unfold commitP
  split
  · exact ⟨rfl, rfl⟩
  · split
    · exact ⟨rfl, rfl⟩
    · split
      · exact ⟨rfl, rfl⟩
      · split
        · split
          · exact ⟨by show (doneP _ _).G.size = _; rw [hd.2.1]; exact hp.1, by show (doneP _ _).D.V.length = _; rw [hd.1]; exact hp.2⟩
          · exact hp
        · exact hr
structure LI (P Q : Pl) (V : Nat → Pg) (k pages s t : Nat) : Prop where
  p : PlI P V k
  q : PlI Q V k
  pl : ∃ T, PlL P T
  ql : ∃ T, PlL Q T
  ch : Q.ch = P.ch
  np : P.n = pages
  nq : Q.n = pages
  sp : P.G.size = s
  sq : Q.G.size = t
namespace LI
variable {P Q : Pl} {V : Nat → Pg} {k pages s t : Nat}
theorem rd (h : LI P Q V k pages s t) (n : Int) : rdE Q n = rdE P n := by
  unfold rdE
  have e : inP Q n ↔ inP P n := by unfold inP; rw [h.np, h.nq]
  by_cases hm : inP P n
  · rw [if_pos hm, if_pos (e.2 hm)]
  · rw [if_neg hm, if_neg fun hc => hm (e.1 hc)]
theorem up (h : LI P Q V k pages s t) {k2 : Nat} (hk : k ≤ k2) : LI P Q V k2 pages s t := ⟨h.p.up hk, h.q.up hk, h.pl, h.ql, h.ch, h.np, h.nq, h.sp, h.sq⟩
theorem rec_ (h : LI P Q V k pages s t) : recP Q = recP P := by unfold recP; rw [h.ch, h.np, h.nq]
theorem put (h : LI P Q V k pages s t) (n : Int) {X : Pg} (hX : X.length = 512) : LI (pP P n X) (pP Q n X) V k pages s t := by
  have e : inP Q n ↔ inP P n := by unfold inP; rw [h.np, h.nq]
  have hp := h.p.pP n hX
  have hq := h.q.pP n hX
  revert hp hq
  unfold pP
  by_cases hm : inP P n
  · rw [if_pos hm, if_pos (e.2 hm)]
    intro hp hq
    have hm2 := hm
    unfold inP at hm2
    obtain ⟨a1, a2, a3, a4, a5, a6, a7⟩ := askP_same P n.toNat
    obtain ⟨b1, b2, b3, b4, b5, b6, b7⟩ := askP_same Q n.toNat
    obtain ⟨T, hT⟩ := h.pl
    obtain ⟨T2, hT2⟩ := h.ql
    have hnp := h.np
    have hnq := h.nq
    refine ⟨hp, hq, ⟨T, hT.same a1 a2 a5⟩, ⟨T2, hT2.same b1 b2 b5⟩, ?_, a7.trans h.np, b7.trans h.nq, by show (askP P n.toNat).G.size = s; rw [a2]; exact h.sp, by show (askP Q n.toNat).G.size = t; rw [b2]; exact h.sq⟩
    show updP Q.ch n.toNat _ = updP P.ch n.toNat _
    rw [h.ch, h.p.ask (by omega), h.q.ask (by omega)]
  · rw [if_neg hm, if_neg fun hc => hm (e.1 hc)]
    intro _ _
    exact h
theorem abort (h : LI P Q V k pages s t) : LI { P with ch := noP } { Q with ch := noP } V k pages s t := by
  obtain ⟨T, hT⟩ := h.pl
  obtain ⟨T2, hT2⟩ := h.ql
  exact ⟨h.p.setCh noP (fun i b h => nomatch h), h.q.setCh noP (fun i b h => nomatch h), ⟨T, hT.same rfl rfl rfl⟩, ⟨T2, hT2.same rfl rfl rfl⟩, rfl, h.np, h.nq, h.sp, h.sq⟩
theorem commit (h : LI P Q V k pages s t) (hk : k ≤ 900000) (hn : pages ≤ 2048) (hl : (recP P).length ≤ 3) (hs : needW 3 ≤ (s : Int)) (ht : needW 3 ≤ (t : Int)) :
    (commitP P).1 = 0 ∧ (commitP Q).1 = 0 ∧ LI (commitP P).2 (commitP Q).2 (viewC P V) (k + 1) pages s t ∧ (recP (commitP P).2).length = 0 := by
  have hnp := h.np
  have hnq := h.nq
  have hw := needW3 hl
  obtain ⟨p1, p2, p3, p4, p5⟩ := h.p.commit hk (by omega)
  obtain ⟨q1, q2, q3, q4, q5⟩ := h.q.commit hk (by omega)
  have hrec := h.rec_
  have e1 := p4 (by omega) (by rw [h.sp]; omega)
  have e2 := q4 (by rw [hrec]; omega) (by rw [hrec, h.sq]; omega)
  have v1 : commitV P V = viewC P V := by unfold commitV; rw [if_pos e1]
  have v2 : commitV Q V = viewC P V := by unfold commitV; rw [if_pos e2]; unfold viewC; rw [h.ch, hnp, hnq]
  rw [v1] at p1
  rw [v2] at q1
  obtain ⟨T, hT⟩ := h.pl
  obtain ⟨T2, hT2⟩ := h.ql
  have hch : (commitP Q).2.ch = (commitP P).2.ch ∧ (recP (commitP P).2).length = 0 := by
    by_cases h0 : (recP P).length = 0
    · have a1 : commitP P = (0, P) := by unfold commitP; rw [if_pos h0]
      have a2 : commitP Q = (0, Q) := by unfold commitP; rw [if_pos (by rw [hrec]; exact h0)]
      rw [a1, a2]
      exact ⟨h.ch, h0⟩
    · have c1 := p5 e1 (by omega)
      have c2 := q5 e2 (by rw [hrec]; omega)
      refine ⟨by rw [c1, c2], ?_⟩
      unfold recP
      rw [c1]
      have e : ∀ m a, prsP noP a m = [] := fun m => by
        induction m with
        | zero => intro a; rfl
        | succ m ih => intro a; rw [prsP]; exact ih (a + 1)
      rw [e]; rfl
  exact ⟨e1, e2, ⟨p1, q1, hT.commit h.p hk (by omega), hT2.commit h.q hk (by omega), hch.1, p2.trans hnp, q2.trans hnq, (commit_size P).1.trans h.sp, (commit_size Q).1.trans h.sq⟩, hch.2⟩
theorem getP (h : LI P Q V k pages s t) (n : Int) : LI (gP P n) Q V k pages s t := by
  obtain ⟨T, hT⟩ := h.pl
  have hs := SameF.get P n
  exact ⟨h.p.gP n, h.q, ⟨T, hT.same hs.D hs.G hs.di⟩, h.ql, by rw [hs.ch]; exact h.ch, hs.n.trans h.np, h.nq, by rw [hs.G]; exact h.sp, h.sq⟩
theorem getQ (h : LI P Q V k pages s t) (n : Int) : LI P (gP Q n) V k pages s t := by
  obtain ⟨T, hT⟩ := h.ql
  have hs := SameF.get Q n
  exact ⟨h.p, h.q.gP n, h.pl, ⟨T, hT.same hs.D hs.G hs.di⟩, by rw [hs.ch]; exact h.ch, h.np, hs.n.trans h.nq, h.sp, by rw [hs.G]; exact h.sq⟩
end LI
theorem frP_log {pages s fr : Nat} (h4 : 4 ≤ s) (hs : s ≤ 4000) (hp : pages ≤ 500) (hdk : DkOk (frP pages s fr).D) : PlL (frP pages s fr) [] := by
  obtain ⟨a1, a2, a3, a4⟩ := frP_all fr h4 hs hp
  refine ⟨hdk, ?_, rfl, rfl, by rw [a4 0 (by omega), if_pos rfl]; rfl, fun i _ => rfl⟩
  show Inv s 2 2 1 [] (logB (frP pages s fr).D s)
  rw [show logB (frP pages s fr).D s = zerosB (128 * s) from secL_zeros fun j hj => by rw [a4 _ (by omega), if_neg (by omega)]]
  exact (inv_zero s).up (by omega) (by omega)
theorem rot2 {A B C D : TH} {l : List TH} : (A :: B :: C :: D :: l).Perm (C :: D :: A :: B :: l) := (List.perm_append_comm (l₁ := [A, B]) (l₂ := [C, D])).append_right l
section
variable {A B : TH} {g q lo : Nat} {L : List Nat} {P : Pl} {V : Nat → Pg} {k : Nat} {w : World} {l l2 l' : List TH} {D : Dk}
theorem bGet (h : AtZ (A :: B :: dzT g P.D :: prT g q P :: l) lo L w) (hi : PlI P V k) (n : Int) : Calls Tryz.prog 17 [.pointer (some ⟨q, 0, none⟩), .int .i64 n].toArray w (Ret fun v w' => v = .tuple #[.agg (bv (gX P V n)).toArray, .int .i64 (rdE P n)] ∧ AtZ (A :: B :: dzT g (gP P n).D :: prT g q (gP P n) :: l) lo L w' ∧ LoL lo L w w') :=
  (aGet (h.perm rot2) hi n).to fun _ _ ⟨a, b, c⟩ => ⟨a, b.perm rot2, c⟩
theorem bPut (h : AtZ (A :: B :: dzT g P.D :: prT g q P :: l) lo L w) (hi : PlI P V k) (n : Int) {X : Pg} (hX : X.length = 512) : Calls Tryz.prog 12 [.pointer (some ⟨q, 0, none⟩), .int .i64 n, .agg (bv X).toArray].toArray w (Ret fun v w' => v = .int .i64 (rdE P n) ∧ AtZ (A :: B :: dzT g (pP P n X).D :: prT g q (pP P n X) :: l) lo L w' ∧ LoL lo L w w') :=
  (aPut (h.perm rot2) hi n hX).to fun _ _ ⟨a, b, c⟩ => ⟨a, b.perm rot2, c⟩
theorem bCommit (h : AtZ (A :: B :: dzT g P.D :: prT g q P :: l) lo L w) (hi : PlI P V k) : Calls Tryz.prog 16 [.pointer (some ⟨q, 0, none⟩)].toArray w (Ret fun v w' => v = .int .i64 (commitP P).1 ∧ AtZ (A :: B :: dzT g (commitP P).2.D :: prT g q (commitP P).2 :: l) lo L w' ∧ LoL lo L w w') :=
  (aCommit (h.perm rot2) hi).to fun _ _ ⟨a, b, c⟩ => ⟨a, b.perm rot2, c⟩
theorem bAbort (h : AtZ (A :: B :: dzT g P.D :: prT g q P :: l) lo L w) (hi : PlI P V k) : Calls Tryz.prog 14 [.pointer (some ⟨q, 0, none⟩)].toArray w (Ret fun v w' => v = .int .i64 0 ∧ AtZ (A :: B :: dzT g P.D :: prT g q { P with ch := noP } :: l) lo L w' ∧ LoL lo L w w') :=
  (aAbort (h.perm rot2) hi).to fun _ _ ⟨a, b, c⟩ => ⟨a, b.perm rot2, c⟩
theorem cGet (h : AtZ l lo L w) (hp : l.Perm (dzT g D :: prT g q P :: l')) (hD : P.D = D) (hi : PlI P V k) (n : Int) (hp2 : (dzT g D :: prT g q (gP P n) :: l').Perm l2) : Calls Tryz.prog 17 [.pointer (some ⟨q, 0, none⟩), .int .i64 n].toArray w (Ret fun v w' => v = .tuple #[.agg (bv (gX P V n)).toArray, .int .i64 (rdE P n)] ∧ AtZ l2 lo L w' ∧ LoL lo L w w') := by
  subst hD
  refine (aGet (h.perm hp) hi n).to fun _ _ ⟨a, b, c⟩ => ⟨a, ?_, c⟩
  rw [(SameF.get P n).D] at b
  exact b.perm hp2
end
theorem gX_V {P : Pl} {V : Nat → Pg} {i : Nat} (hn : i < P.n) (hch : P.ch = noP) : gX P V (i : Int) = V i := by
  unfold gX
  rw [if_pos (by unfold inP; omega), hch, Int.toNat_natCast]; rfl
theorem rdE_0 {P : Pl} {i : Nat} (hn : i < P.n) : rdE P (i : Int) = 0 := by
  unfold rdE
  rw [if_pos (by unfold inP; omega)]
theorem stale {P O : Pl} {V : Nat → Pg} {k k2 : Nat} (hP : PlI P V k) (hO : PlI O V k2) (hd : O.di = noP) (hn : O.n = P.n) (hs : O.G.size = P.G.size) (hl : O.D.V.length = P.D.V.length) : PlI { P with D := O.D } V k := by
  have e : ({ P with D := O.D } : Pl).n = P.n := by unfold Pl.n; dsimp only; rw [hl]
  have hok := hP.ok
  have hlg := hok.lg
  refine ⟨⟨⟨hlg.s1, hlg.sc, hlg.cm, hlg.sz4, hlg.szm, hlg.at_, hlg.num, by show 1 + P.G.size ≤ O.D.V.length; rw [hl]; exact hlg.fit⟩, by rw [e]; exact hok.n4, hok.fr2, hok.frm, hok.ch, hok.di, hok.cl, hok.cll⟩, hO.al, hP.gd, hP.de, hP.ct, hP.dn, hP.cl, fun n hnn _ => ?_, fun n hnn => hP.ln n (by rw [← e]; exact hnn)⟩
  rw [e, ← hn] at hnn
  have := hO.pg n hnn (by rw [hd]; rfl)
  rw [hs] at this
  exact this
end Go.Proofs.YtielfpkjoidomaaGreat
