/- Disks beside something else: what each call does; what is known. -/
import Derived.Test.YtpndhildmfmcgaaDiskK
namespace Go.Proofs.Ytpndhildmfmcgaa
open Go Go.RowKit Coup

abbrev DZ (g : Nat) (D : Dk) : World → List Nat → Prop := fun w B => DkX w g B D
abbrev RZ (g : Nat) (D : Dk) : World → List Nat → Prop := fun w B => RfX w g B D
instance (g : Nat) (D : Dk) : Thing (DZ g D) := ⟨DkX.kpd, DkX.lt⟩
instance (g : Nat) (D : Dk) : Thing (RZ g D) := ⟨RfX.kpd, RfX.lt⟩
section
variable {Y : World → List Nat → Prop} {g lo : Nat} {D : Dk} {w : World}
theorem dzOk (h : Duo (DZ g D) Y lo w) : DkOk D ∧ 0 < D.V.length ∧ lo ≤ g ∧ g < w.heap.size := by
  obtain ⟨B, C, h1, h2, h3, h4⟩ := h
  exact ⟨h1.ok, h1.pos, (h3 g h1.self).1, h1.lt g h1.self⟩
theorem dzLo (h : Duo (DZ g D) Y lo w) : lo ≤ w.heap.size := by
  have := dzOk h
  omega
end
section
variable {Y : World → List Nat → Prop} [Thing Y] {g lo : Nat} {D : Dk} {w : World}
theorem dWrite (h : Duo (DZ g D) Y lo w) (i : Int) (s : Sec) (hs : s.length = 128) (hsh : shortD D 90000) :
    Calls Try.prog 17 [.pointer (some ⟨g, 0, none⟩), .int .i64 i, .agg (bv s).toArray].toArray w (Ret fun v w' => v = .int .i64 (writeE D i) ∧ Duo (DZ g (writeA D i s)) Y lo w' ∧ Below lo w w') :=
  h.left (dzLo h) fun B hX _ => write hX i s hs hsh
theorem dFlush (h : Duo (DZ g D) Y lo w) :
    Calls Try.prog 16 [.pointer (some ⟨g, 0, none⟩)].toArray w (Ret fun v w' => v = .int .i64 (if stepOk D then 0 else 10) ∧ Duo (DZ g (flushD D)) Y lo w' ∧ Below lo w w') :=
  h.left (dzLo h) fun B hX _ => (flush hX).to fun _ _ ⟨h1, h2, h3⟩ => ⟨h1, B, h2, .of_kp h3⟩
def fuseA (D : Dk) (k : Int) : Dk := if 0 ≤ k then { D with left := k } else D
theorem dFuse (h : Duo (DZ g D) Y lo w) (k : Int) (hk : k ≤ 9223372036854775807) :
    Calls Try.prog 15 [.pointer (some ⟨g, 0, none⟩), .int .i64 k].toArray w (Ret fun v w' => v = .int .i64 (if 0 ≤ k then 0 else 2) ∧ Duo (DZ g (fuseA D k)) Y lo w' ∧ Below lo w w') :=
  h.left (dzLo h) fun B hX _ => (fuse hX k hk).to fun _ _ ⟨h1, h2, h3⟩ => ⟨h1, B, h2, .of_kp h3⟩
theorem dCrash (h : Duo (DZ g D) Y lo w) (pp : Option Addr) (np cp : Nat) (picks : List Int) (hpk : SlAt w pp np 1 (iv picks)) (hpkb : 0 < np → ∀ b o, pp = some ⟨b, o, none⟩ → b < lo) :
    Calls Try.prog 20 [.pointer (some ⟨g, 0, none⟩), .slice pp np cp].toArray w (Ret fun v w' => v = .int .i64 0 ∧ Duo (DZ g (crashD D picks)) Y lo w' ∧ Below lo w w') :=
  h.left (dzLo h) fun B hX hB => (crash hX pp np cp picks hpk fun h0 b o e hm => absurd (hB b hm) (Nat.not_le.2 (hpkb h0 b o e))).to fun _ _ ⟨h1, h2, h3⟩ => ⟨h1, B, h2, .of_kp h3⟩
end
section
variable {Y : World → List Nat → Prop} {g lo : Nat} {D : Dk} {w : World}
theorem dSectors (h : Duo (DZ g D) Y lo w) : Calls Try.prog 27 [.pointer (some ⟨g, 0, none⟩)].toArray w (Ret fun v w' => v = .int .i64 (D.V.length : Int) ∧ w = w') := by
  obtain ⟨B, C, h1, h2, h3, h4⟩ := h
  exact sectors h1
theorem dDead (h : Duo (DZ g D) Y lo w) : Calls Try.prog 18 [.pointer (some ⟨g, 0, none⟩)].toArray w (Ret fun v w' => v = .bool D.dead ∧ w = w') := by
  obtain ⟨B, C, h1, h2, h3, h4⟩ := h
  exact dead h1
theorem dRead (h : Duo (DZ g D) Y lo w) (i : Int) : Calls Try.prog 23 [.pointer (some ⟨g, 0, none⟩), .int .i64 i].toArray w (Ret fun v w' => v = .tuple #[.agg (bv (if inD D i then readD D i.toNat else zeroS)).toArray, .int .i64 (if inD D i then 0 else 2)] ∧ Below w.heap.size w w') := by
  obtain ⟨B, C, h1, h2, h3, h4⟩ := h
  exact read h1 i
theorem dOpen (h : Duo (DZ g D) Y lo w) : Calls Try.prog 22 [.pointer (some ⟨g, 0, none⟩)].toArray w (Ret fun v w' => ∃ p c, v = .slice p (opI D).length c ∧ SlAt w' p (opI D).length 1 (iv (opI D)) ∧ (∀ b o, p = some ⟨b, o, none⟩ → w.heap.size ≤ b) ∧ Below w.heap.size w w') := by
  obtain ⟨B, C, h1, h2, h3, h4⟩ := h
  exact openC h1
theorem dSame {h' : Nat} {E : Dk} (h : Duo (DZ g D) (DZ h' E) lo w) : Calls Try.prog 19 [.pointer (some ⟨g, 0, none⟩), .pointer (some ⟨h', 0, none⟩)].toArray w (Ret fun v w' => v = .bool (sameD D E) ∧ Below w.heap.size w w') := by
  obtain ⟨B, C, h1, h2, h3, h4⟩ := h
  exact same h1 h2
end
theorem newC {w : World} (n : Nat) (h1 : 1 ≤ n) (h2 : n ≤ 8192) :
    Calls Try.prog 11 [.int .i64 (n : Int)].toArray w (Ret fun v w' => ∃ g B, v = .tuple #[.pointer (some ⟨g, 0, none⟩), .int .i64 0] ∧ DkX w' g B (newD n) ∧ (∀ b ∈ B, w.heap.size ≤ b) ∧ Below w.heap.size w w') :=
  (new11a n h1 h2).to fun v w' ⟨g, pl, m, e, hM, l1, l2, l3, hb⟩ => ⟨g, [g, pl, m] ++ [], e, ⟨pl, m, [], 0, n, 0, false, _, rfl, hM, ⟨fun i hi => absurd hi (by rw [newD_closed]; simp), fun i j b hi => absurd hi (by rw [newD_closed]; simp)⟩⟩, (fun b hb => by
    simp only [List.append_nil, List.mem_cons, List.not_mem_nil, or_false] at hb
    rcases hb with rfl | rfl | rfl <;> assumption), hb⟩
/-- One alone. -/
theorem Duo.one {X : World → List Nat → Prop} {w : World} {B : List Nat} {lo : Nat} (h : X w B) (hB : ∀ b ∈ B, lo ≤ b) : Duo X None lo w := ⟨B, [], h, rfl, fun b hb => ⟨hB b hb, by simp⟩, fun b hb => nomatch hb⟩
/-- A second one, that was made behind the first. -/
theorem Duo.add {X Y : World → List Nat → Prop} [hX : Thing X] {w w' : World} {C : List Nat} {lo : Nat} (h : Duo X None lo w) (hl : lo ≤ w.heap.size) (hb : Below w.heap.size w w') (hY : Y w' C) (hC : ∀ b ∈ C, w.heap.size ≤ b) : Duo X Y lo w' := by
  obtain ⟨B, _, h1, rfl, h3, h4⟩ := h
  exact ⟨B, C, hX.kpd h1 (M := []) (Kp.of_below hb) (by simp), hY, fun b hb => ⟨(h3 b hb).1, fun hc => absurd (hX.lt h1 b hb) (Nat.not_lt.2 (hC b hc))⟩, fun b hb => Nat.le_trans hl (hC b hb)⟩
end Go.Proofs.Ytpndhildmfmcgaa
