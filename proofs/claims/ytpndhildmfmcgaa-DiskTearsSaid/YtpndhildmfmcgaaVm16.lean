/- Two things in memory, apart from one another, each with its own blocks; what one of them does. -/
import Derived.Test.YtpndhildmfmcgaaVm15
namespace Coup
open Go Go.RowKit

theorem Kp.of_below' {M : List Nat} {w w' : World} (h : Below w.heap.size w w') : Kp M w w' := (Kp.of_below (M := []) h).weak fun _ _ hm => nomatch hm
/-- What a thing does to the world: its own blocks change, and it may take new ones. -/
structure Mv (B B' : List Nat) (w w' : World) : Prop where
  k : Kp B w w'
  sub : ∀ b ∈ B', b ∈ B ∨ w.heap.size ≤ b
theorem Mv.of_below {B : List Nat} {w w' : World} (h : Below w.heap.size w w') : Mv B B w w' := ⟨Kp.of_below' h, fun _ hb => .inl hb⟩
theorem Mv.of_kp {B : List Nat} {w w' : World} (h : Kp B w w') : Mv B B w w' := ⟨h, fun _ hb => .inl hb⟩
theorem Mv.lo {B B' : List Nat} {w w' : World} {lo : Nat} (h : Mv B B' w w') (hB : ∀ b ∈ B, lo ≤ b) (hl : lo ≤ w.heap.size) : ∀ b ∈ B', lo ≤ b := fun b hb => (h.sub b hb).elim (hB b) (Nat.le_trans hl)
theorem Mv.bel {B B' : List Nat} {w w' : World} {lo : Nat} (h : Mv B B' w w') (hB : ∀ b ∈ B, lo ≤ b) (hl : lo ≤ w.heap.size) : Below lo w w' :=
  ⟨h.k.os, h.k.tape, h.k.output, h.k.size, fun i hi => h.k.block i (Nat.lt_of_lt_of_le hi hl) fun hm => absurd (hB i hm) (Nat.not_le.2 hi)⟩
/-- What lies from lo on changed. -/
theorem Kp.of_lo {lo : Nat} {w w' : World} (h : Below lo w w') : Kp (List.range' lo (w.heap.size - lo)) w w' :=
  ⟨h.os, h.tape, h.output, h.size, fun i hi hm => h.block i (Nat.not_le.1 fun hl => hm (List.mem_range'_1.2 ⟨hl, by omega⟩))⟩
theorem notLo {lo n b : Nat} (h : b < lo) : b ∉ List.range' lo n := fun hm => absurd (List.mem_range'_1.1 hm).1 (Nat.not_le.2 h)
theorem inLo {lo n b : Nat} (h : b ∈ List.range' lo n) : lo ≤ b := (List.mem_range'_1.1 h).1
theorem belLo {w0 w w' : World} {lo : Nat} (h : Below w0.heap.size w0 w) (k : Below lo w w') (hl : w0.heap.size ≤ lo) : Below w0.heap.size w0 w' := h.kpd (Kp.of_lo k) fun _ hm => Nat.le_trans hl (inLo hm)

/-- A thing with its own blocks. -/
class Thing (X : World → List Nat → Prop) : Prop where
  kpd : ∀ {w w' : World} {B M : List Nat}, X w B → Kp M w w' → (∀ b ∈ B, b ∉ M) → X w' B
  lt : ∀ {w : World} {B : List Nat}, X w B → ∀ b ∈ B, b < w.heap.size
def None : World → List Nat → Prop := fun _ B => B = []
instance : Thing None := ⟨fun h _ _ => h, fun h b hb => by rw [h] at hb; cases hb⟩
/-- Two things apart, both from lo on. -/
def Duo (X Y : World → List Nat → Prop) (lo : Nat) (w : World) : Prop := ∃ B C, X w B ∧ Y w C ∧ (∀ b ∈ B, lo ≤ b ∧ b ∉ C) ∧ ∀ b ∈ C, lo ≤ b
namespace Duo
variable {X X' Y Y' : World → List Nat → Prop} {lo : Nat} {w w' : World}
theorem kpd {M : List Nat} [hX : Thing X] [hY : Thing Y] (h : Duo X Y lo w) (k : Kp M w w') (hM : ∀ b ∈ M, b < lo) : Duo X Y lo w' := by
  obtain ⟨B, C, h1, h2, h3, h4⟩ := h
  exact ⟨B, C, hX.kpd h1 k fun b hb hm => absurd (h3 b hb).1 (Nat.not_le.2 (hM b hm)), hY.kpd h2 k fun b hb hm => absurd (h4 b hb) (Nat.not_le.2 (hM b hm)), h3, h4⟩
theorem new [hX : Thing X] [hY : Thing Y] (h : Duo X Y lo w) (hb : Below w.heap.size w w') : Duo X Y lo w' := h.kpd (M := []) (Kp.of_below hb) (by simp)
theorem only {g : Nat} [hX : Thing X] [hY : Thing Y] (h : Duo X Y lo w) (ho : Only g w w') (hg : g < lo) : Duo X Y lo w' := h.kpd (Kp.of_only ho) (by simpa using hg)
theorem swap (h : Duo X Y lo w) : Duo Y X lo w := by
  obtain ⟨B, C, h1, h2, h3, h4⟩ := h
  exact ⟨C, B, h2, h1, fun b hb => ⟨h4 b hb, fun hm => (h3 b hm).2 hb⟩, fun b hb => (h3 b hb).1⟩
/-- What lies in other blocks from lo on changed. -/
theorem avoid {M : List Nat} [hX : Thing X] [hY : Thing Y] {n : Nat} (h : Duo X Y lo w) (k : Kp M w w') (hn : w.heap.size ≤ n) (hM : ∀ b ∈ M, n ≤ b) : Duo X Y lo w' := by
  obtain ⟨B, C, h1, h2, h3, h4⟩ := h
  exact ⟨B, C, hX.kpd h1 k fun b hb hm => absurd (hX.lt h1 b hb) (Nat.not_lt.2 (Nat.le_trans hn (hM b hm))), hY.kpd h2 k fun b hb hm => absurd (hY.lt h2 b hb) (Nat.not_lt.2 (Nat.le_trans hn (hM b hm))), h3, h4⟩
/-- The first one is done something with. -/
theorem left [hY : Thing Y] {P : Program} {f : FuncId} {args : Array Value} {R : Value → Prop} (h : Duo X Y lo w) (hl : lo ≤ w.heap.size)
    (hc : ∀ B, X w B → (∀ b ∈ B, lo ≤ b) → Calls P f args w (Ret fun v w' => R v ∧ ∃ B', X' w' B' ∧ Mv B B' w w')) : Calls P f args w (Ret fun v w' => R v ∧ Duo X' Y lo w' ∧ Below lo w w') := by
  obtain ⟨B, C, h1, h2, h3, h4⟩ := h
  refine (hc B h1 fun b hb => (h3 b hb).1).to fun v w' ⟨hR, B', hX, hm⟩ => ⟨hR, ⟨B', C, hX, hY.kpd h2 hm.k fun b hb hb' => (h3 b hb').2 hb, fun b hb => ⟨hm.lo (fun b hb => (h3 b hb).1) hl b hb, fun hc => ?_⟩, h4⟩, hm.bel (fun b hb => (h3 b hb).1) hl⟩
  rcases hm.sub b hb with hb' | hb'
  · exact (h3 b hb').2 hc
  · exact absurd (hY.lt h2 b hc) (Nat.not_lt.2 hb')
theorem right [hX : Thing X] {P : Program} {f : FuncId} {args : Array Value} {R : Value → Prop} (h : Duo X Y lo w) (hl : lo ≤ w.heap.size)
    (hc : ∀ B, Y w B → (∀ b ∈ B, lo ≤ b) → Calls P f args w (Ret fun v w' => R v ∧ ∃ B', Y' w' B' ∧ Mv B B' w w')) : Calls P f args w (Ret fun v w' => R v ∧ Duo X Y' lo w' ∧ Below lo w w') :=
  (h.swap.left hl hc).to fun _ _ ⟨h1, h2, h3⟩ => ⟨h1, h2.swap, h3⟩
end Duo
end Coup
