/- Two things in memory, apart from one another and from a list of the walk's own cells; what one of them does. -/
import Derived.Test.YtpndhildmfmcgaaVm16
namespace Coup
open Go Go.RowKit

/-- What lies below lo, and the blocks of L, did not change. -/
structure LoL (lo : Nat) (L : List Nat) (w w' : World) : Prop where
  os : w'.os = w.os
  tape : w'.tape = w.tape
  output : w'.output = w.output
  size : w.heap.size ≤ w'.heap.size
  block : ∀ i, i < w.heap.size → (i < lo ∨ i ∈ L) → w'.heap[i]? = w.heap[i]?
def outL (lo : Nat) (L : List Nat) (n : Nat) : List Nat := (List.range n).filter fun i => decide (¬ (i < lo ∨ i ∈ L))
theorem notLL {lo n b : Nat} {L : List Nat} (h : b < lo ∨ b ∈ L) : b ∉ outL lo L n := fun hm => by
  have := (List.mem_filter.1 hm).2
  simp only [decide_eq_true_eq] at this
  exact this h
theorem inLL {lo n b : Nat} {L : List Nat} (h : b ∈ outL lo L n) : lo ≤ b ∧ b ∉ L := by
  have := (List.mem_filter.1 h).2
  simp only [decide_eq_true_eq, not_or, Nat.not_lt] at this
  exact this
namespace LoL
variable {lo : Nat} {L : List Nat} {w w1 w2 w' : World}
theorem refl (lo : Nat) (L : List Nat) (w : World) : LoL lo L w w := ⟨rfl, rfl, rfl, Nat.le_refl _, fun _ _ _ => rfl⟩
theorem kp (h : LoL lo L w w') : Kp (outL lo L w.heap.size) w w' :=
  ⟨h.os, h.tape, h.output, h.size, fun i hi hm => h.block i hi (by
    by_cases hx : i < lo ∨ i ∈ L
    · exact hx
    · exact absurd (List.mem_filter.2 ⟨List.mem_range.2 hi, decide_eq_true hx⟩) hm)⟩
theorem of_kp {M : List Nat} (h : Kp M w w') (hM : ∀ b ∈ M, (lo ≤ b ∧ b ∉ L) ∨ w.heap.size ≤ b) : LoL lo L w w' :=
  ⟨h.os, h.tape, h.output, h.size, fun i hi hx => h.block i hi fun hm => by
    rcases hM i hm with h1 | h1
    · exact hx.elim (fun hx => by omega) h1.2
    · omega⟩
theorem of_below (h : Below w.heap.size w w') : LoL lo L w w' := of_kp (M := []) (Kp.of_below h) (by simp)
/-- More is done behind: in blocks that were not there at first, or may change. -/
theorem kpd {M : List Nat} (h : LoL lo L w w1) (k : Kp M w1 w') (hM : ∀ b ∈ M, (lo ≤ b ∧ b ∉ L) ∨ w.heap.size ≤ b) : LoL lo L w w' :=
  ⟨k.os.trans h.os, k.tape.trans h.tape, k.output.trans h.output, Nat.le_trans h.size k.size, fun i hi hx => (k.block i (Nat.lt_of_lt_of_le hi h.size) fun hm => by
    rcases hM i hm with h1 | h1
    · exact hx.elim (fun hx => by omega) h1.2
    · omega).trans (h.block i hi hx)⟩
theorem new (h : LoL lo L w w1) (hb : Below w1.heap.size w1 w') : LoL lo L w w' := h.kpd (M := []) (Kp.of_below hb) (by simp)
theorem only {g : Nat} (h : LoL lo L w w1) (ho : Only g w1 w') (hg : w.heap.size ≤ g ∨ lo ≤ g ∧ g ∉ L) : LoL lo L w w' := h.kpd (Kp.of_only ho) fun b hb => by
  rw [List.mem_singleton.1 hb]; exact hg.symm
theorem own {base e sz m : Nat} {v : Value} {xs : List Value} (h : LoL lo L w w1) (ho : ownsAt w1 base e sz v m xs) (hg : w1.grownBy w' v.ownBlock) (hk : w.heap.size ≤ base) : LoL lo L w w' :=
  h.kpd (Kp.of_grown hg) fun b hb => by
    have := (ho.lt b (Option.mem_toList.1 hb)).1
    right; omega
theorem ll {L2 : List Nat} (h : LoL lo L w w1) (k : LoL lo L2 w1 w') (hL : ∀ b ∈ L, b ∈ L2) : LoL lo L w w' := h.kpd k.kp fun b hb => .inl ⟨(inLL hb).1, fun hm => (inLL hb).2 (hL b hm)⟩
theorem weak {lo2 : Nat} {L2 : List Nat} (h : LoL lo L w w') (h1 : lo2 ≤ lo) (h2 : ∀ b ∈ L2, b ∈ L) : LoL lo2 L2 w w' := ⟨h.os, h.tape, h.output, h.size, fun i hi hx => h.block i hi (hx.imp (fun h => by omega) (h2 i))⟩
end LoL
theorem belLL {w0 w w' : World} {lo : Nat} {L : List Nat} (h : Below w0.heap.size w0 w) (k : LoL lo L w w') (hl : w0.heap.size ≤ lo) : Below w0.heap.size w0 w' := h.kpd k.kp fun _ hm => Nat.le_trans hl (inLL hm).1
theorem KpB.ll {M : List Nat} {w0 w w' : World} {lo : Nat} {L : List Nat} (h : KpB M w0 w) (k : LoL lo L w w') (hl : w0.heap.size ≤ lo) : KpB M w0 w' := h.kpd k.kp fun _ hm => .inr (Nat.le_trans hl (inLL hm).1)

section
variable {md : Option Nat → Prop} {P : Program} {n : Nat} {Q : Post} {ρ : Env} {w w1 wc w' : World} {l : List Oper} {lo : Nat} {L : List Nat}
theorem W_drawL {id : Nat} (lo : Nat) (L : List Nat) (hm : P.follows .mixedOrders = true) (h : ∀ w1, Below w.heap.size w w1 → w.heap.size = w1.heap.size → Kp (outL lo L w.heap.size) w1 w1 → WA md P n l (Kp (outL lo L w.heap.size) w1) Q [] ρ w1) : W md P n (.region id l.toArray true) Q ρ w :=
  W_draw (Kp (outL lo L w.heap.size) w.drew) hm (Kp.refl _ _) (h w.drew (Below.refl _ _).drew rfl (Kp.refl _ _))
theorem Kp.addLL {k : Nat} (hS : Kp (outL lo L k) w1 wc) (hn : k = w1.heap.size) (h : LoL lo L wc w') : Kp (outL lo L k) w1 w' :=
  hS.add h.kp fun g hm => by
    by_cases hg : g < k
    · exact .inr (List.mem_filter.2 ⟨List.mem_range.2 hg, decide_eq_true fun hx => hx.elim (fun hl => absurd (inLL hm).1 (Nat.not_le.2 hl)) (inLL hm).2⟩)
    · left; omega
end
/-- Two things apart, both from lo on, none of their blocks in L. -/
structure Two (X Y : World → List Nat → Prop) (lo : Nat) (L : List Nat) (w : World) : Prop where
  ex : ∃ B C, X w B ∧ Y w C ∧ (∀ b ∈ B, lo ≤ b ∧ b ∉ C ∧ b ∉ L) ∧ ∀ b ∈ C, lo ≤ b ∧ b ∉ L
  lo : lo ≤ w.heap.size
  lt : ∀ b ∈ L, b < w.heap.size
namespace Two
variable {X X' Y Y' : World → List Nat → Prop} {lo : Nat} {L : List Nat} {w w' : World}
theorem kpd {M : List Nat} [hX : Thing X] [hY : Thing Y] (h : Two X Y lo L w) (k : Kp M w w') (hM : ∀ b ∈ M, b < lo ∨ b ∈ L) : Two X Y lo L w' := by
  obtain ⟨⟨B, C, h1, h2, h3, h4⟩, h5, h6⟩ := h
  exact ⟨⟨B, C, hX.kpd h1 k fun b hb hm => (hM b hm).elim (fun hl => absurd (h3 b hb).1 (Nat.not_le.2 hl)) (h3 b hb).2.2, hY.kpd h2 k fun b hb hm => (hM b hm).elim (fun hl => absurd (h4 b hb).1 (Nat.not_le.2 hl)) (h4 b hb).2, h3, h4⟩, Nat.le_trans h5 k.size, fun b hb => Nat.lt_of_lt_of_le (h6 b hb) k.size⟩
theorem new [hX : Thing X] [hY : Thing Y] (h : Two X Y lo L w) (hb : Below w.heap.size w w') : Two X Y lo L w' := h.kpd (M := []) (Kp.of_below hb) (by simp)
/-- A cell that is new lies in none of their blocks. -/
theorem newc {g : Nat} [hX : Thing X] [hY : Thing Y] (h : Two X Y lo L w) (hb : Below w.heap.size w w') (hg : w.heap.size ≤ g) (hg' : g < w'.heap.size) : Two X Y lo (g :: L) w' := by
  obtain ⟨⟨B, C, h1, h2, h3, h4⟩, h5, h6⟩ := h
  refine ⟨⟨B, C, hX.kpd h1 (M := []) (Kp.of_below hb) (by simp), hY.kpd h2 (M := []) (Kp.of_below hb) (by simp), fun b hb => ⟨(h3 b hb).1, (h3 b hb).2.1, fun hm => ?_⟩, fun b hb => ⟨(h4 b hb).1, fun hm => ?_⟩⟩, Nat.le_trans h5 hb.size, fun b hm => ?_⟩
  · rcases List.mem_cons.1 hm with rfl | hm
    · exact absurd (hX.lt h1 _ hb) (Nat.not_lt.2 hg)
    · exact (h3 b hb).2.2 hm
  · rcases List.mem_cons.1 hm with rfl | hm
    · exact absurd (hY.lt h2 _ hb) (Nat.not_lt.2 hg)
    · exact (h4 b hb).2 hm
  · rcases List.mem_cons.1 hm with rfl | hm
    · exact hg'
    · exact Nat.lt_of_lt_of_le (h6 b hm) hb.size
theorem only {g : Nat} [hX : Thing X] [hY : Thing Y] (h : Two X Y lo L w) (ho : Only g w w') (hg : g < lo ∨ g ∈ L) : Two X Y lo L w' := h.kpd (Kp.of_only ho) fun b hb => by rw [List.mem_singleton.1 hb]; exact hg
theorem weak {L2 : List Nat} (h : Two X Y lo L w) (h2 : ∀ b ∈ L2, b ∈ L) : Two X Y lo L2 w := by
  obtain ⟨⟨B, C, a, b, h3, h4⟩, h5, h6⟩ := h
  exact ⟨⟨B, C, a, b, fun x hx => ⟨(h3 x hx).1, (h3 x hx).2.1, fun hm => (h3 x hx).2.2 (h2 x hm)⟩, fun x hx => ⟨(h4 x hx).1, fun hm => (h4 x hx).2 (h2 x hm)⟩⟩, h5, fun b hb => h6 b (h2 b hb)⟩
theorem swap (h : Two X Y lo L w) : Two Y X lo L w := by
  obtain ⟨⟨B, C, h1, h2, h3, h4⟩, h5, h6⟩ := h
  exact ⟨⟨C, B, h2, h1, fun b hb => ⟨(h4 b hb).1, fun hm => (h3 b hm).2.1 hb, (h4 b hb).2⟩, fun b hb => ⟨(h3 b hb).1, (h3 b hb).2.2⟩⟩, h5, h6⟩
theorem mv {B B' C : List Nat} [hX : Thing X] [hY : Thing Y] (h1 : X' w' B') (h2 : Y w C) (h3 : ∀ b ∈ B, lo ≤ b ∧ b ∉ C ∧ b ∉ L) (h4 : ∀ b ∈ C, lo ≤ b ∧ b ∉ L) (h5 : lo ≤ w.heap.size) (h6 : ∀ b ∈ L, b < w.heap.size) (hm : Mv B B' w w') : Two X' Y lo L w' :=
  ⟨⟨B', C, h1, hY.kpd h2 hm.k fun b hb hb' => (h3 b hb').2.1 hb, fun b hb => by
    rcases hm.sub b hb with hb' | hb'
    · exact h3 b hb'
    · exact ⟨Nat.le_trans h5 hb', fun hc => absurd (hY.lt h2 b hc) (Nat.not_lt.2 hb'), fun hc => absurd (h6 b hc) (Nat.not_lt.2 hb')⟩, h4⟩, Nat.le_trans h5 hm.k.size, fun b hb => Nat.lt_of_lt_of_le (h6 b hb) hm.k.size⟩
/-- The first one is done something with. -/
theorem left [hX : Thing X] [hY : Thing Y] {P : Program} {f : FuncId} {args : Array Value} {R : Value → Prop} (h : Two X Y lo L w)
    (hc : ∀ B, X w B → (∀ b ∈ B, lo ≤ b ∧ b ∉ L) → Calls P f args w (Ret fun v w' => R v ∧ ∃ B', X' w' B' ∧ Mv B B' w w')) : Calls P f args w (Ret fun v w' => R v ∧ Two X' Y lo L w' ∧ LoL lo L w w') := by
  obtain ⟨⟨B, C, h1, h2, h3, h4⟩, h5, h6⟩ := h
  exact (hc B h1 fun b hb => ⟨(h3 b hb).1, (h3 b hb).2.2⟩).to fun v w' ⟨hR, B', hX', hm⟩ => ⟨hR, mv (X := X) hX' h2 h3 h4 h5 h6 hm, LoL.of_kp hm.k fun b hb => .inl ⟨(h3 b hb).1, (h3 b hb).2.2⟩⟩
theorem right [hX : Thing X] [hY : Thing Y] {P : Program} {f : FuncId} {args : Array Value} {R : Value → Prop} (h : Two X Y lo L w)
    (hc : ∀ B, Y w B → (∀ b ∈ B, lo ≤ b ∧ b ∉ L) → Calls P f args w (Ret fun v w' => R v ∧ ∃ B', Y' w' B' ∧ Mv B B' w w')) : Calls P f args w (Ret fun v w' => R v ∧ Two X Y' lo L w' ∧ LoL lo L w w') :=
  (h.swap.left hc).to fun _ _ ⟨h1, h2, h3⟩ => ⟨h1, h2.swap, h3⟩
/-- One alone. -/
theorem one {B : List Nat} (h : X w B) (hB : ∀ b ∈ B, lo ≤ b ∧ b ∉ L) (hl : lo ≤ w.heap.size) (hL : ∀ b ∈ L, b < w.heap.size) : Two X None lo L w := ⟨⟨B, [], h, rfl, fun b hb => ⟨(hB b hb).1, by simp, (hB b hb).2⟩, fun b hb => nomatch hb⟩, hl, hL⟩
/-- A second one, that was made behind the first. -/
theorem add {C : List Nat} [hX : Thing X] (h : Two X None lo L w) (hb : Below w.heap.size w w') (hY : Y w' C) (hC : ∀ b ∈ C, w.heap.size ≤ b) : Two X Y lo L w' := by
  obtain ⟨⟨B, _, h1, rfl, h3, h4⟩, h5, h6⟩ := h
  exact ⟨⟨B, C, hX.kpd h1 (M := []) (Kp.of_below hb) (by simp), hY, fun b hb => ⟨(h3 b hb).1, fun hc => absurd (hX.lt h1 b hb) (Nat.not_lt.2 (hC b hc)), (h3 b hb).2.2⟩, fun b hb => ⟨Nat.le_trans h5 (hC b hb), fun hm => absurd (h6 b hm) (Nat.not_lt.2 (hC b hb))⟩⟩, Nat.le_trans h5 hb.size, fun b hm => Nat.lt_of_lt_of_le (h6 b hm) hb.size⟩
theorem fst (h : Two X Y lo L w) : Two X None lo L w := by
  obtain ⟨⟨B, C, h1, h2, h3, h4⟩, h5, h6⟩ := h
  exact ⟨⟨B, [], h1, rfl, fun b hb => ⟨(h3 b hb).1, by simp, (h3 b hb).2.2⟩, fun b hb => nomatch hb⟩, h5, h6⟩
end Two
/-- A slice of the walk's own, that is grown, as a thing. -/
def OwnZ (e sz : Nat) (u : Value) (m : Nat) (xs : List Value) : World → List Nat → Prop := fun w C => C = u.ownBlock.toList ∧ ownsAt w 0 e sz u m xs
instance (e sz : Nat) (u : Value) (m : Nat) (xs : List Value) : Thing (OwnZ e sz u m xs) :=
  ⟨fun {w w' B M} h k hM => ⟨h.1, h.2.kpd k fun g hm e => hM g (by rw [h.1]; exact Option.mem_toList.2 e) hm⟩, fun {w B} h b hb => by rw [h.1] at hb; exact (h.2.lt b (Option.mem_toList.1 hb)).2⟩
namespace Two
variable {X : World → List Nat → Prop} {lo : Nat} {L : List Nat} {w w' : World} {e sz : Nat} {u v : Value} {m k : Nat} {xs ys : List Value}
theorem owns (h : Two X (OwnZ e sz u m xs) lo L w) : ownsAt w 0 e sz u m xs := by
  obtain ⟨⟨B, C, h1, h2, h3, h4⟩, h5, h6⟩ := h
  exact h2.2
theorem grow [hX : Thing X] {base : Nat} (h : Two X (OwnZ e sz u m xs) lo L w) (hv : ownsAt w' base e sz v k ys) (hg : w.grownBy w' u.ownBlock) (hf : ∀ g, v.ownBlock = some g → u.ownBlock = some g ∨ w.heap.size ≤ g) : Two X (OwnZ e sz v k ys) lo L w' ∧ LoL lo L w w' := by
  obtain ⟨⟨B, C, h1, h2, h3, h4⟩, h5, h6⟩ := h
  have hm : Mv C v.ownBlock.toList w w' := ⟨by rw [h2.1]; exact Kp.of_grown hg, fun b hb => by rw [h2.1]; exact (hf b (Option.mem_toList.1 hb)).imp Option.mem_toList.2 id⟩
  have hz : OwnZ e sz v k ys w' v.ownBlock.toList := ⟨rfl, ownsAt.mono hv (Nat.zero_le _)⟩
  exact ⟨(mv (X := OwnZ e sz u m xs) (X' := OwnZ e sz v k ys) (Y := X) hz h1 (fun b hb => ⟨(h4 b hb).1, fun hc => (h3 b hc).2.1 hb, (h4 b hb).2⟩) (fun b hb => ⟨(h3 b hb).1, (h3 b hb).2.2⟩) h5 h6 hm).swap, LoL.of_kp hm.k fun b hb => .inl (h4 b hb)⟩
/-- The slice is begun. -/
theorem addOwn [hX : Thing X] (h : Two X None lo L w) (hb : Below w.heap.size w w') (hu : ownsAt w' w.heap.size e sz u m xs) : Two X (OwnZ e sz u m xs) lo L w' :=
  h.add hb (Y := OwnZ e sz u m xs) ⟨rfl, ownsAt.mono hu (Nat.zero_le _)⟩ fun b hb' => (hu.lt b (Option.mem_toList.1 hb')).1
end Two
end Coup
