/- Laws of the author's own, over any program: append onto a slice that begins anywhere in its array; maps from numbers to numbers, written out. -/
import Derived.WalkKit
import Derived.Lib.Hide
import Derived.Maps.AppendAt
import Derived.Deep.RegionLaw
import Derived.MapKept
import Derived.Deep.QuietTactic
import Derived.BigQuiet
import Derived.Laws.CopyOwn
import Derived.Laws.Rows
import Derived.Deep.MidRow
namespace Coup
open Go Go.RowKit

/-- A slice that begins anywhere in an array of the call's own. -/
def ownsAt (w : World) (base : Nat) (e : TypeId) (size : Nat) (v : Value) (n : Nat) (xs : List Value) : Prop :=
  xs.length = n * size ∧ ((v = .slice none 0 0 ∧ n = 0) ∨
   ∃ g off cap cur, v = .slice (some ⟨g, off, none⟩) n cap ∧ base ≤ g ∧ w.heap[g]? = some (.cells cur e (0, 0)) ∧ n ≤ cap ∧ cap ≤ maxLen ∧ off + cap * size ≤ cur.size ∧ (cur.toList.drop off).take (n * size) = xs)

theorem ownsAt_of_row {w : World} {base : Nat} {e : TypeId} {size : Nat} {v : Value} {n : Nat} {xs : List Value} (h : w.ownsRow base e size v n xs) : ownsAt w base e size v n xs := by
  refine ⟨h.1, ?_⟩
  rcases h.2 with hn | ⟨g, cap, cur, rfl, h1, h2, h3, h4, h5, h6⟩
  · exact .inl hn
  · exact .inr ⟨g, 0, cap, cur, rfl, h1, h2, h3, h4, by omega, by simpa using h6⟩

section
variable {w w' : World} {base : Nat} {e : TypeId} {size : Nat} {v : Value} {n : Nat} {xs : List Value}
theorem ownsAt.lt (h : ownsAt w base e size v n xs) : ∀ k, v.ownBlock = some k → base ≤ k ∧ k < w.heap.size := by
  intro k hk
  rcases h.2 with ⟨rfl, _⟩ | ⟨g, off, cap, cur, rfl, hb, hg, _⟩
  · simp [Value.ownBlock] at hk
  · simp [Value.ownBlock] at hk
    subst hk
    exact ⟨hb, (Array.getElem?_eq_some_iff.1 hg).1⟩
theorem ownsAt.kept {row : Option Nat} (h : ownsAt w base e size v n xs) (hg : w.grownBy w' row) (hne : v.ownBlock = none ∨ v.ownBlock ≠ row) : ownsAt w' base e size v n xs := by
  refine ⟨h.1, ?_⟩
  rcases h.2 with hn | ⟨g, off, cap, cur, rfl, hb, hgg, rest⟩
  · exact .inl hn
  · refine .inr ⟨g, off, cap, cur, rfl, hb, ?_, rest⟩
    rw [hg.block g (Array.getElem?_eq_some_iff.1 hgg).1 (by simpa [Value.ownBlock] using hne)]
    exact hgg
theorem ownsAt.alloc (h : ownsAt w base e size v n xs) (o : Obj) : ownsAt (w.alloc o) base e size v n xs :=
  h.kept (World.grownBy_alloc w o none) (by cases hv : v.ownBlock <;> simp)
theorem ownsAt.below {B : Nat} (h : ownsAt w base e size v n xs) (hb : Below B w w') (hB : ∀ k, v.ownBlock = some k → k < B) : ownsAt w' base e size v n xs := by
  refine ⟨h.1, ?_⟩
  rcases h.2 with hn | ⟨g, off, cap, cur, rfl, hbg, hgg, rest⟩
  · exact .inl hn
  · exact .inr ⟨g, off, cap, cur, rfl, hbg, by rw [hb.block g (hB g rfl)]; exact hgg, rest⟩
theorem ownsAt.form (h : ownsAt w base e size v n xs) : ∃ p c, v = .slice p n c := by
  rcases h.2 with ⟨rfl, rfl⟩ | ⟨g, off, cap, cur, rfl, _⟩
  · exact ⟨_, _, rfl⟩
  · exact ⟨_, _, rfl⟩
theorem ownsAt.form' (h : ownsAt w base e size v n xs) (hn : 0 < n) : ∃ g off cap, v = .slice (some ⟨g, off, none⟩) n cap ∧ base ≤ g ∧ g < w.heap.size ∧ n ≤ cap := by
  rcases h.2 with ⟨_, h0⟩ | ⟨g, off, cap, cur, hv, hb, hg, h1, _⟩
  · omega
  · exact ⟨g, off, cap, hv, hb, (Array.getElem?_eq_some_iff.1 hg).1, h1⟩
theorem ownsAt.cells {g off cap : Nat} (h : ownsAt w base e size (.slice (some ⟨g, off, none⟩) n cap) n xs) : ∀ j u, xs[j]? = some u → w.cell? ((⟨g, off, none⟩ : Addr).add j) = some u := by
  intro j u hu
  rcases h.2 with ⟨hv, _⟩ | ⟨g', off', cap', cur, hv, _, hgg, _, _, _, htake⟩
  · cases hv
  · cases hv
    rw [Addr.add_lit, cell_of_row w g (off + j) cur e (0, 0) hgg]
    rw [← htake, List.getElem?_take] at hu
    split at hu
    · simpa [List.getElem?_drop] using hu
    · cases hu
/-- The slice without its first element. -/
theorem ownsAt.tail {g off n cap : Nat} {x : Value} {xs : List Value} (h : ownsAt w base e 1 (.slice (some ⟨g, off, none⟩) (n + 1) cap) (n + 1) (x :: xs)) : ownsAt w base e 1 (.slice (some (if cap = 1 then ⟨g, off, none⟩ else ⟨g, off + 1, none⟩)) n (cap - 1)) n xs := by
  have hl := h.1
  refine ⟨by simp at hl ⊢; omega, .inr ?_⟩
  rcases h.2 with ⟨hv, _⟩ | ⟨g', off', cap', cur, hv, hb, hgg, h1, h2, h3, htake⟩
  · cases hv
  · cases hv
    by_cases hc : cap = 1
    · rw [if_pos hc]
      have hn : n = 0 := by omega
      subst hn
      exact ⟨g, off, cap - 1, cur, rfl, hb, hgg, by omega, by omega, by omega, by simp at hl ⊢; exact hl⟩
    · rw [if_neg hc]
      refine ⟨g, off + 1, cap - 1, cur, rfl, hb, hgg, by omega, by omega, by omega, ?_⟩
      simp only [Nat.mul_one] at htake ⊢
      have := congrArg List.tail htake
      rw [List.tail_cons] at this
      rw [← this, ← List.drop_drop]
      cases hd : cur.toList.drop off with
      | nil => simp
      | cons a r => simp
end

section
variable {P : Program} (w : World)

theorem run_append_room_at (t ty e : TypeId) (i : TypeInfo) (ht : P.underlying t = some (.slice e)) (hi : P.info? e = some i)
    (g off sLen sCap : Nat) (cur : Array Value) (hg : w.heap[g]? = some (.cells cur e (0, 0)))
    (a : Addr) (m c : Nat) (news : List Value) (hl : news.length = m * i.size) (hnews : ∀ j u, news[j]? = some u → w.cell? (a.add j) = some u) (h1 : ∀ u ∈ news, u.oneCell' = true)
    (hroom : sLen + m ≤ sCap) (hfit : off + sLen * i.size + news.length ≤ cur.size) :
    (Builtin.append_ #[t, t] ty #[.slice (some ⟨g, off, none⟩) sLen sCap, .slice (some a) m c]).run P w =
      .ok (.slice (some ⟨g, off, none⟩) (sLen + m) sCap) (w.setRow g (cur.toList.take (off + sLen * i.size) ++ news ++ cur.toList.drop (off + sLen * i.size + news.length)).toArray) := by
  have hf := run_firstCells_some (P := P) w i.size m a m c news hl hnews
  have hst := run_storeCells_at P g (off + sLen * i.size) e news 0 cur w hg (by simpa using hfit) h1
  simp only [Nat.add_zero] at hst
  simp [Builtin.append_, run_underlying ht, Go.sizeOf, typeInfo, hi, Builtin.lenOf, hroom, hf, Addr.add_lit, hst]

/-- append onto a slice of the call's own, wherever it begins: the new slice; where it lies. -/
theorem run_append_at (base : Nat) (t ty e : TypeId) (i : TypeInfo) (z : Value) (size bytes : Nat) (ht : P.underlying t = some (.slice e)) (hi : P.info? e = some i) (hz : i.zero = some z)
    (hsize : i.size = size) (hby : i.bytes = bytes) (hzs : z.cells.size = size) (hsz : 0 < size)
    (v : Value) (n : Nat) (xs : List Value) (hown : ownsAt w base e size v n xs)
    (a : Addr) (m c : Nat) (news : List Value) (hl : news.length = m * size) (hnews : ∀ j u, news[j]? = some u → w.cell? (a.add j) = some u) (h1 : ∀ u ∈ news, u.oneCell' = true)
    (hm : 0 < m) (h63 : n + m ≤ maxLen) (hbytes : (n + m) * bytes ≤ 140737488355328) (hbase : base ≤ w.heap.size) :
    ∃ g off cap w', (Builtin.append_ #[t, t] ty #[v, .slice (some a) m c]).run P w = .ok (.slice (some ⟨g, off, none⟩) (n + m) cap) w' ∧ ownsAt w' base e size (.slice (some ⟨g, off, none⟩) (n + m) cap) (n + m) (xs ++ news) ∧ w.grownBy w' v.ownBlock ∧
      (v.ownBlock = some g ∨ g = w.heap.size) ∧ g < w'.heap.size ∧ ownsAt w' base e size v n xs := by
  subst hsize
  subst hby
  have hsmall : n + m ≤ 9223372036854775807 := by simp only [maxLen] at h63; omega
  have hlen : (xs ++ news).length = (n + m) * i.size := by rw [List.length_append, hown.1, hl, Nat.add_mul]
  have grown : ∀ (old : Nat) (row : Option Nat),
      ownsAt (w.drew.alloc (.cells (xs.toArray ++ news.toArray ++ Builtin.zeroCells z.cells (grownCap w (n + m) old e - (n + m))) e)) base e i.size
        (.slice (some ⟨w.heap.size, 0, none⟩) (n + m) (grownCap w (n + m) old e)) (n + m) (xs ++ news) ∧
      w.grownBy (w.drew.alloc (.cells (xs.toArray ++ news.toArray ++ Builtin.zeroCells z.cells (grownCap w (n + m) old e - (n + m))) e)) row := by
    intro old row
    have hge := grownCap_ge w (n + m) old e
    have hcm : grownCap w (n + m) old e ≤ maxLen := grownCap_le_maxLen w (n + m) old e h63
    refine ⟨⟨hlen, .inr ⟨w.heap.size, 0, _, _, rfl, hbase, heap_alloc_new w.drew _, hge, hcm, ?_, ?_⟩⟩, ⟨rfl, rfl, rfl, by simp, fun k hk _ => heap_alloc_old w.drew _ hk⟩⟩
    · simp only [Array.size_append, List.size_toArray, size_zeroCells, hzs, hown.1, hl, ← Nat.add_mul]
      apply Nat.le_of_eq
      rw [Nat.zero_add]
      congr 1
      omega
    · simp only [Array.toList_append, List.append_assoc, List.drop_zero]
      rw [← List.append_assoc, ← hlen]
      exact List.take_left
  rcases hown.2 with ⟨rfl, rfl⟩ | ⟨g, off, cap, cur, rfl, hbg, hg, hnc, hcm, hcs, htake⟩
  · have hx : xs = [] := List.eq_nil_of_length_eq_zero (by simpa using hown.1)
    subst hx
    have hr := run_append_nil (P := P) w t ty e i z ht hi hz a m c news hl hnews (by omega) (by omega) (by have hb := hbytes; simp only [Nat.zero_add] at hb; omega)
    have hgr := grown 0 (Value.ownBlock (.slice none 0 0))
    simp only [Nat.zero_add, List.nil_append, Array.empty_append] at hgr ⊢
    exact ⟨_, _, _, _, hr, hgr.1, hgr.2, .inr rfl, by simp, ⟨by simp, .inl ⟨rfl, rfl⟩⟩⟩
  · by_cases hroom : n + m ≤ cap
    · have hle : n * i.size + m * i.size ≤ cap * i.size := by rw [← Nat.add_mul]; exact Nat.mul_le_mul_right _ hroom
      have hfit : off + n * i.size + news.length ≤ cur.size := by rw [hl]; omega
      have hr := run_append_room_at (P := P) w t ty e i ht hi g off n cap cur hg a m c news hl hnews h1 hroom hfit
      refine ⟨_, _, _, _, hr, ⟨hlen, .inr ⟨g, off, cap, _, rfl, hbg, setRow_heap w g cur _ e _ hg, hroom, hcm, ?_, ?_⟩⟩, ⟨rfl, rfl, rfl, by simp [World.setRow], fun k _ hk => setRow_other w g k _ (fun e => hk (by simp [Value.ownBlock, e]))⟩, .inl rfl, ?_, hown.1, .inr ⟨g, off, cap, _, rfl, hbg, setRow_heap w g cur _ e _ hg, hnc, hcm, ?_, ?_⟩⟩
      · simp only [List.size_toArray, List.length_append, List.length_take, List.length_drop, Array.length_toList]
        omega
      · have h2 : (cur.toList.take (off + n * i.size)).drop off = xs := by rw [← htake, List.drop_take]; congr 1; omega
        have h3 : off ≤ (cur.toList.take (off + n * i.size)).length := by rw [List.length_take, Array.length_toList]; omega
        rw [List.append_assoc, List.drop_append_of_le_length h3, h2, ← List.append_assoc, ← hlen]
        exact List.take_left
      · have : g < w.heap.size := (Array.getElem?_eq_some_iff.1 hg).1
        simpa [World.setRow] using this
      · simp only [List.size_toArray, List.length_append, List.length_take, List.length_drop, Array.length_toList]
        omega
      · have h2 : (cur.toList.take (off + n * i.size)).drop off = xs := by rw [← htake, List.drop_take]; congr 1; omega
        have h3 : off ≤ (cur.toList.take (off + n * i.size)).length := by rw [List.length_take, Array.length_toList]; omega
        rw [List.append_assoc, List.drop_append_of_le_length h3, h2, ← hown.1]
        exact List.take_left
    · have holds : ∀ j u, xs[j]? = some u → w.cell? ((⟨g, off, none⟩ : Addr).add j) = some u := hown.cells
      have hr := run_append_grow (P := P) w t ty e i z ht hi hz ⟨g, off, none⟩ n cap xs hown.1 holds a m c news hl hnews (by omega) (by omega) (growslice_fits (by omega) hbytes)
      have hgr := grown cap (Value.ownBlock (.slice (some ⟨g, off, none⟩) n cap))
      exact ⟨_, _, _, _, hr, hgr.1, hgr.2, .inr rfl, by simp, hown.kept (row := none) ⟨rfl, rfl, rfl, by simp, fun k hk _ => heap_alloc_old w.drew _ hk⟩ (by simp [Value.ownBlock])⟩

/-- At the operation. -/
theorem wp_append_at {o : Oper} {a : Act} {K : Act → World → Prop} {Q : Exit → Act → World → Prop} (s x : Operand) (t : TypeId)
    (ho : o.op = .call { callee := .builtin .append, args := #[s, x], argTypes := #[t, t] })
    (base : Nat) (e : TypeId) (i : TypeInfo) (z : Value) (size bytes : Nat) (ht : P.underlying t = some (.slice e)) (hi : P.info? e = some i) (hz : i.zero = some z)
    (hsize : i.size = size) (hby : i.bytes = bytes) (hzs : z.cells.size = size) (hsz : 0 < size)
    (v : Value) (n : Nat) (xs : List Value) (hs : a.eval s = v) (hown : ownsAt w base e size v n xs)
    (ad : Addr) (m c : Nat) (news : List Value) (hx : a.eval x = .slice (some ad) m c) (hl : news.length = m * size) (hnews : ∀ j u, news[j]? = some u → w.cell? (ad.add j) = some u) (h1 : ∀ u ∈ news, u.oneCell' = true)
    (hm : 0 < m) (h63 : n + m ≤ maxLen) (hbytes : (n + m) * bytes ≤ 140737488355328) (hbase : base ≤ w.heap.size)
    (h : ∀ g off cap w', ownsAt w' base e size (.slice (some ⟨g, off, none⟩) (n + m) cap) (n + m) (xs ++ news) → w.grownBy w' v.ownBlock → (v.ownBlock = some g ∨ g = w.heap.size) → g < w'.heap.size → ownsAt w' base e size v n xs → K (a.put o.dst (.slice (some ⟨g, off, none⟩) (n + m) cap)) w') : o.wp P a w K Q := by
  obtain ⟨g, off, cap, w', hr, h2, h3, h4, h5, h6⟩ := run_append_at (P := P) w base t o.type e i z size bytes ht hi hz hsize hby hzs hsz v n xs hown ad m c news hl hnews h1 hm h63 hbytes hbase
  unfold Oper.wp execOp
  simp only [ho, resolve, invoke, builtin, Sem.run_bind, Sem.run_pure, Result.andThen_ok, List.map_toArray, List.map_cons, List.map_nil, hs, hx, hr]
  exact h g off cap w' h2 h3 h4 h5 h6

/-- At the list of a plain region's operations. -/
theorem wpList_append_at {ops : Array Oper} {rest : List Oper} {o : Oper} {a : Act} {Q : Exit → Act → World → Prop} (hgd : o.guard = none) (s x : Operand) (t : TypeId)
    (ho : o.op = .call { callee := .builtin .append, args := #[s, x], argTypes := #[t, t] })
    (base : Nat) (e : TypeId) (i : TypeInfo) (z : Value) (size bytes : Nat) (ht : P.underlying t = some (.slice e)) (hi : P.info? e = some i) (hz : i.zero = some z)
    (hsize : i.size = size) (hby : i.bytes = bytes) (hzs : z.cells.size = size) (hsz : 0 < size)
    (v : Value) (n : Nat) (xs : List Value) (hs : a.eval s = v) (hown : ownsAt w base e size v n xs)
    (ad : Addr) (m c : Nat) (news : List Value) (hx : a.eval x = .slice (some ad) m c) (hl : news.length = m * size) (hnews : ∀ j u, news[j]? = some u → w.cell? (ad.add j) = some u) (h1 : ∀ u ∈ news, u.oneCell' = true)
    (hm : 0 < m) (h63 : n + m ≤ maxLen) (hbytes : (n + m) * bytes ≤ 140737488355328) (hbase : base ≤ w.heap.size)
    (h : ∀ g off cap w', ownsAt w' base e size (.slice (some ⟨g, off, none⟩) (n + m) cap) (n + m) (xs ++ news) → w.grownBy w' v.ownBlock → (v.ownBlock = some g ∨ g = w.heap.size) → g < w'.heap.size → ownsAt w' base e size v n xs → wpList P ops Q rest (a.put o.dst (.slice (some ⟨g, off, none⟩) (n + m) cap)) w') : wpList P ops Q (o :: rest) a w :=
  wpList_plain hgd fun _ hK => wp_append_at w s x t ho base e i z size bytes ht hi hz hsize hby hzs hsz v n xs hs hown ad m c news hx hl hnews h1 hm h63 hbytes hbase fun g off cap w' h2 h3 h4 h5 h6 => hK _ _ (h g off cap w' h2 h3 h4 h5 h6)

/-- At a step of a region that draws its order. -/
theorem step_append_at {ops : Array Oper} {o : Oper} {a : Act} {K : Act → World → Prop} {Q : Exit → Act → World → Prop} {E : Prop} (hgd : o.guard = none) (s x : Operand) (t : TypeId)
    (ho : o.op = .call { callee := .builtin .append, args := #[s, x], argTypes := #[t, t] })
    (base : Nat) (e : TypeId) (i : TypeInfo) (z : Value) (size bytes : Nat) (ht : P.underlying t = some (.slice e)) (hi : P.info? e = some i) (hz : i.zero = some z)
    (hsize : i.size = size) (hby : i.bytes = bytes) (hzs : z.cells.size = size) (hsz : 0 < size)
    (v : Value) (n : Nat) (xs : List Value) (hs : a.eval s = v) (hown : ownsAt w base e size v n xs)
    (ad : Addr) (m c : Nat) (news : List Value) (hx : a.eval x = .slice (some ad) m c) (hl : news.length = m * size) (hnews : ∀ j u, news[j]? = some u → w.cell? (ad.add j) = some u) (h1 : ∀ u ∈ news, u.oneCell' = true)
    (hm : 0 < m) (h63 : n + m ≤ maxLen) (hbytes : (n + m) * bytes ≤ 140737488355328) (hbase : base ≤ w.heap.size)
    (h : ∀ g off cap w', ownsAt w' base e size (.slice (some ⟨g, off, none⟩) (n + m) cap) (n + m) (xs ++ news) → w.grownBy w' v.ownBlock → (v.ownBlock = some g ∨ g = w.heap.size) → g < w'.heap.size → ownsAt w' base e size v n xs → K (a.put o.dst (.slice (some ⟨g, off, none⟩) (n + m) cap)) w') :
    if Region.wanted o (yielded ops a.tmps) = true then Oper.wp P o a w K Q else E := by
  have hw : Region.wanted o (yielded ops a.tmps) = true := by simp [Region.wanted, hgd]
  rw [if_pos hw]
  exact wp_append_at w s x t ho base e i z size bytes ht hi hz hsize hby hzs hsz v n xs hs hown ad m c news hx hl hnews h1 hm h63 hbytes hbase h

end

/-! ### Maps from numbers to numbers -/
def imapE (k : IntKind) (kvs : List (Int × Int)) (from_ : Nat) : List MapEntry := (kvs.zipIdx from_).map fun p => ⟨.int k p.1.1, .int k p.1.2, p.2⟩
/-- The block of a map that was filled with new keys, one by one. -/
def imap (k : IntKind) (kvs : List (Int × Int)) : Obj := .map (imapE k kvs 0).toArray kvs.length
def lookI (kvs : List (Int × Int)) (x : Int) : Option Int := (kvs.find? fun p => p.1 == x).map (·.2)

theorem imapE_append (k : IntKind) (kvs : List (Int × Int)) (x y : Int) (j : Nat) : imapE k (kvs ++ [(x, y)]) j = imapE k kvs j ++ [⟨.int k x, .int k y, j + kvs.length⟩] := by
  simp [imapE, List.zipIdx_append]

theorem findNow_none {k : IntKind} {x : Int} : ∀ (kvs : List (Int × Int)) (j i : Nat), lookI kvs x = none → Instr.findNow (.int k) (.int k x) (imapE k kvs j) i = some none
  | [], _, _, _ => rfl
  | (a, b) :: r, j, i, h => by
    have ha : ¬ a = x := by
      intro e; subst e; simp [lookI] at h
    have hr : lookI r x = none := by simpa [lookI, ha] using h
    have := findNow_none (k := k) r (j + 1) (i + 1) hr
    simp only [imapE, List.zipIdx_cons, List.map_cons] at this ⊢
    have hxa : (x == a) = false := by simpa using fun e : x = a => ha e.symm
    simp [Instr.findNow, Instr.sameNow, hxa, this]
theorem findNow_some {k : IntKind} {x y : Int} : ∀ (kvs : List (Int × Int)) (j i : Nat), lookI kvs x = some y → ∃ i', Instr.findNow (.int k) (.int k x) (imapE k kvs j) i = some (some (i', .int k y))
  | [], _, _, h => by simp [lookI] at h
  | (a, b) :: r, j, i, h => by
    by_cases ha : a = x
    · subst ha
      have hb : b = y := by simpa [lookI] using h
      subst hb
      exact ⟨i, by simp [imapE, Instr.findNow, Instr.sameNow]⟩
    · have hr : lookI r x = some y := by simpa [lookI, ha] using h
      obtain ⟨i', hi⟩ := findNow_some (k := k) r (j + 1) (i + 1) hr
      refine ⟨i', ?_⟩
      simp only [imapE, List.zipIdx_cons, List.map_cons] at hi ⊢
      have hxa : (x == a) = false := by simpa using fun e : x = a => ha e.symm
      simp [Instr.findNow, Instr.sameNow, hxa, hi]

section
variable {P : Program} {w : World} {t kt et : TypeId} {k : IntKind} {b : Nat} {kvs : List (Int × Int)}

theorem run_checkKey_int (hk : P.underlying kt = some (.int k)) (x : Int) (e : Bool) (n : Nat) : (Instr.checkKey e (n + 1) kt (.int k x)).run P w = .ok () w := by
  simp [Instr.checkKey, run_underlying hk]

theorem run_lookup_none (c : Bool) (ht : P.underlying t = some (.map kt et)) (hk : P.underlying kt = some (.int k)) (hz : (zeroValue et).run P w = .ok (.int k 0) w) (hb : w.heap[b]? = some (imap k kvs)) {x : Int} (hx : lookI kvs x = none) :
    (Instr.lookup t (.map (some b)) (.int k x) c).run P w = .ok (if c then .tuple #[.int k 0, .bool false] else .int k 0) w := by
  have h1 := findNow_none (k := k) kvs 0 0 hx
  simp [Instr.lookup, run_underlying ht, MapKept.run_getObj_map hb, run_checkKey_int hk, Instr.findKey, run_underlying hk, h1, hz, Result.andThen]
theorem run_lookup_some (c : Bool) (ht : P.underlying t = some (.map kt et)) (hk : P.underlying kt = some (.int k)) (hb : w.heap[b]? = some (imap k kvs)) {x y : Int} (hx : lookI kvs x = some y) :
    (Instr.lookup t (.map (some b)) (.int k x) c).run P w = .ok (if c then .tuple #[.int k y, .bool true] else .int k y) w := by
  obtain ⟨i, h1⟩ := findNow_some (k := k) kvs 0 0 hx
  simp [Instr.lookup, run_underlying ht, MapKept.run_getObj_map hb, run_checkKey_int hk, Instr.findKey, run_underlying hk, h1, Result.andThen]

/-- The world with another block in its place. -/
def setB (w : World) (b : Nat) (o : Obj) : World := { w with heap := w.heap.setIfInBounds b o }
theorem setB_same {o o' : Obj} (hb : w.heap[b]? = some o') : (setB w b o).heap[b]? = some o := by
  have : b < w.heap.size := (Array.getElem?_eq_some_iff.1 hb).1
  simp [setB, this]
theorem setB_other {o : Obj} {i : Nat} (h : i ≠ b) : (setB w b o).heap[i]? = w.heap[i]? := by
  simp [setB, Ne.symm h]
theorem setB_alloc (w : World) (o o' : Obj) : setB (w.alloc o) w.heap.size o' = w.alloc o' := by
  have : (w.heap.push o).setIfInBounds w.heap.size o' = w.heap.push o' := by
    apply Array.ext'
    simp
  show ({ w with heap := (w.heap.push o).setIfInBounds w.heap.size o' } : World) = { w with heap := w.heap.push o' }
  rw [this]
theorem setB_grown {o : Obj} : w.grownBy (setB w b o) (some b) := ⟨rfl, rfl, rfl, by simp [setB], fun i _ hi => setB_other (fun e => hi (by rw [e]))⟩
theorem setB_cell {o o' : Obj} {es : Array MapEntry} {cl : Nat} {es' : Array MapEntry} {cl' : Nat} (ho : o = .map es cl) (ho' : o' = .map es' cl') (hb : w.heap[b]? = some o') (a : Addr) : (setB w b o).cell? a = w.cell? a := by
  subst ho; subst ho'
  by_cases h : a.block = b
  · subst h
    simp [World.cell?, setB_same hb, hb]
  · exact World.cell?_of_block (setB_other h)

theorem run_update_new (ht : P.underlying t = some (.map kt et)) (hk : P.underlying kt = some (.int k)) (hb : w.heap[b]? = some (imap k kvs)) {x : Int} (hx : lookI kvs x = none) (y : Int) :
    (Instr.mapUpdate t (.map (some b)) (.int k x) (.int k y)).run P w = .ok () (setB w b (imap k (kvs ++ [(x, y)]))) := by
  have h1 := findNow_none (k := k) kvs 0 0 hx
  have h2 : imap k (kvs ++ [(x, y)]) = .map ((imapE k kvs 0).toArray.push ⟨.int k x, .int k y, kvs.length⟩) (kvs.length + 1) := by
    simp [imap, imapE_append]
  simp [Instr.mapUpdate, run_underlying ht, MapKept.run_getObj_map hb, run_checkKey_int hk, Instr.findKey, run_underlying hk, h1, MapKept.run_setObj_map _ hb, Result.andThen, setB, h2]

/-- 'm[k] = v' in two steps, at a new key: the entry is made. -/
theorem run_entry_new (ht : P.underlying t = some (.map kt et)) (hk : P.underlying kt = some (.int k)) (hz : (zeroValue et).run P w = .ok (.int k 0) w) (hb : w.heap[b]? = some (imap k kvs)) {x : Int} (hx : lookI kvs x = none) :
    (Instr.mapEntry t (.map (some b)) (.int k x)).run P w = .ok (.tuple #[.int k 0, .int .i64 (kvs.length : Int)]) (setB w b (imap k (kvs ++ [(x, 0)]))) := by
  have h1 := findNow_none (k := k) kvs 0 0 hx
  have h2 : imap k (kvs ++ [(x, 0)]) = .map ((imapE k kvs 0).toArray.push ⟨.int k x, .int k 0, kvs.length⟩) (kvs.length + 1) := by
    simp [imap, imapE_append]
  simp [Instr.mapEntry, run_underlying ht, MapKept.run_getObj_map hb, run_checkKey_int hk, Instr.findKey, run_underlying hk, h1, hz, MapKept.run_setObj_map _ hb, Result.andThen, setB, h2, goInt]
theorem imapE_findIdx (k : IntKind) (x y : Int) : ∀ (kvs : List (Int × Int)) (j : Nat), (imapE k kvs j ++ [(⟨.int k x, .int k y, j + kvs.length⟩ : MapEntry)]).findIdx? (fun e : MapEntry => ((e.born : Nat) : Int) == ((j + kvs.length : Nat) : Int)) = some kvs.length
  | [], j => by simp [imapE, List.findIdx?_cons]
  | (a, c) :: r, j => by
    have := imapE_findIdx k x y r (j + 1)
    simp only [imapE, List.zipIdx_cons, List.map_cons, List.cons_append, List.length_cons] at this ⊢
    rw [List.findIdx?_cons]
    rw [if_neg (by simp; omega)]
    rw [show j + (r.length + 1) = j + 1 + r.length from by omega, this]
    rfl
theorem run_entryStore_new {x : Int} (hb : w.heap[b]? = some (imap k (kvs ++ [(x, 0)]))) (y : Int) :
    (Instr.entryStore t (.map (some b)) (.int .i64 (kvs.length : Int)) (.int k y)).run P w = .ok () (setB w b (imap k (kvs ++ [(x, y)]))) := by
  have hb' : w.heap[b]? = some (.map (imapE k (kvs ++ [(x, 0)]) 0).toArray (kvs ++ [(x, 0)]).length) := hb
  have h1 : (imapE k (kvs ++ [(x, 0)]) 0).toArray.findIdx? (fun e : MapEntry => ((e.born : Nat) : Int) == ((kvs.length : Nat) : Int)) = some kvs.length := by
    have := imapE_findIdx k x 0 kvs 0
    rw [Nat.zero_add] at this
    rw [imapE_append, Nat.zero_add, List.findIdx?_toArray, this]
  have hlen : (imapE k kvs 0).length = kvs.length := by simp [imapE]
  have h2 : (imapE k (kvs ++ [(x, 0)]) 0).toArray.modify kvs.length (fun e => { e with val := .int k y }) = (imapE k (kvs ++ [(x, y)]) 0).toArray := by
    apply Array.ext'
    rw [Array.toList_modify, imapE_append, imapE_append]
    generalize 0 + kvs.length = q
    rw [← hlen]
    generalize imapE k kvs 0 = l
    induction l with
    | nil => rfl
    | cons a r ih => simpa [List.modify_succ_cons] using ih
  simp [Instr.entryStore, MapKept.run_getObj_map hb', asInt, asIntOf, h1, h2, MapKept.run_setObj_map _ hb', Result.andThen, setB, imap]
end
/-! ### Small words -/
theorem ret_bool {a b : Bool} (h : a = b) : Ending.returned (.bool a) = .returned (.bool b) := by rw [h]
theorem ret_int {k : IntKind} {a b : Int} (h : a = b) : Ending.returned (.int k a) = .returned (.int k b) := by rw [h]

/-- The same world, but for answers that were drawn. -/
def Still (w w' : World) : Prop := ∃ n, w' = w.drewN n
theorem Still.refl (w : World) : Still w w := ⟨0, rfl⟩
theorem Still.trans {a b c : World} (h : Still a b) (k : Still b c) : Still a c := by
  obtain ⟨n, rfl⟩ := h; obtain ⟨m, rfl⟩ := k; exact ⟨_, World.drewN_drewN _ _ _⟩
theorem Still.drewN {a b : World} (h : Still a b) (n : Nat) : Still a (b.drewN n) := h.trans ⟨n, rfl⟩
theorem Still.drew {a b : World} (h : Still a b) : Still a b.drew := h.trans ⟨1, rfl⟩
theorem Still.cell {w w' : World} (h : Still w w') (a : Addr) : w'.cell? a = w.cell? a := by obtain ⟨n, rfl⟩ := h; rfl
theorem Still.frozen {w w' : World} (h : Still w w') (a : Addr) : w'.frozen? a = w.frozen? a := by obtain ⟨n, rfl⟩ := h; rfl
theorem Still.heap {w w' : World} (h : Still w w') : w'.heap = w.heap := by obtain ⟨n, rfl⟩ := h; rfl
theorem Still.below {w w' : World} (h : Still w w') (B : Nat) : Below B w w' := by
  obtain ⟨n, rfl⟩ := h; exact ⟨rfl, rfl, rfl, Nat.le_refl _, fun _ _ => rfl⟩

theorem ownsRow_below {w w' : World} {base : Nat} {e : TypeId} {size : Nat} {v : Value} {n : Nat} {xs : List Value} (h : w.ownsRow base e size v n xs) (hb : Below w.heap.size w w') : w'.ownsRow base e size v n xs := by
  refine ⟨h.1, ?_⟩
  rcases h.2 with hn | ⟨g, cap, cur, rfl, hbg, hgg, rest⟩
  · exact .inl hn
  · exact .inr ⟨g, cap, cur, rfl, hbg, by rw [hb.block g (Array.getElem?_eq_some_iff.1 hgg).1]; exact hgg, rest⟩
theorem ownsRow_mono {w : World} {base b' : Nat} {e : TypeId} {size : Nat} {v : Value} {n : Nat} {xs : List Value} (h : w.ownsRow base e size v n xs) (hb : b' ≤ base) : w.ownsRow b' e size v n xs := by
  refine ⟨h.1, ?_⟩
  rcases h.2 with hn | ⟨g, cap, cur, rfl, hbg, rest⟩
  · exact .inl hn
  · exact .inr ⟨g, cap, cur, rfl, Nat.le_trans hb hbg, rest⟩
theorem ownsRow_block_ne {w : World} {b1 b2 : Nat} {e1 e2 : TypeId} {s1 s2 : Nat} {v1 v2 : Value} {n1 n2 : Nat} {x1 x2 : List Value} (h1 : w.ownsRow b1 e1 s1 v1 n1 x1) (h2 : w.ownsRow b2 e2 s2 v2 n2 x2) (hne : e1 ≠ e2) : v1.ownBlock = none ∨ v1.ownBlock ≠ v2.ownBlock := by
  rcases h1.2 with ⟨rfl, _⟩ | ⟨g1, c1, u1, rfl, _, hg1, _⟩
  · exact .inl rfl
  · right
    rcases h2.2 with ⟨rfl, _⟩ | ⟨g2, c2, u2, rfl, _, hg2, _⟩
    · simp [Value.ownBlock]
    · simp only [Value.ownBlock, ne_eq, Option.some.injEq]
      rintro rfl
      rw [hg1] at hg2
      simp only [Option.some.injEq, Obj.cells.injEq] at hg2
      exact hne hg2.2.1
/-- A slice of the call's own as its three parts. -/
theorem ownsRow_form {w : World} {base : Nat} {e : TypeId} {size : Nat} {v : Value} {n : Nat} {xs : List Value} (h : w.ownsRow base e size v n xs) : ∃ p c, v = .slice p n c := by
  rcases h.2 with ⟨rfl, rfl⟩ | ⟨g, cap, cur, rfl, _⟩
  · exact ⟨_, _, rfl⟩
  · exact ⟨_, _, rfl⟩
theorem ownsRow_form' {w : World} {base : Nat} {e : TypeId} {size : Nat} {v : Value} {n : Nat} {xs : List Value} (h : w.ownsRow base e size v n xs) (hn : 0 < n) :
    ∃ g cap, v = .slice (some ⟨g, 0, none⟩) n cap ∧ base ≤ g ∧ g < w.heap.size := by
  rcases h.2 with ⟨_, h0⟩ | ⟨g, cap, cur, hv, hb, hg, _⟩
  · omega
  · exact ⟨g, cap, hv, hb, (Array.getElem?_eq_some_iff.1 hg).1⟩

/-! ### Slices that are read -/
/-- A slice of n elements of so many cells each reads as these cells. -/
structure SlAt (w : World) (p : Option Addr) (n sz : Nat) (cs : List Value) : Prop where
  len : cs.length = n * sz
  max : n ≤ maxLen
  at_ : 0 < n * sz → ∃ b off, p = some ⟨b, off, none⟩ ∧ b < w.heap.size ∧ ∀ k, k < n * sz → w.cell? ⟨b, off + k, none⟩ = cs[k]?

theorem SlAt.below {w w' : World} {p : Option Addr} {n sz : Nat} {cs : List Value} {B : Nat} (h : SlAt w p n sz cs) (hb : Below B w w') (hB : w.heap.size ≤ B) : SlAt w' p n sz cs := by
  refine ⟨h.len, h.max, fun h0 => ?_⟩
  obtain ⟨b, off, hp, hlt, hc⟩ := h.at_ h0
  exact ⟨b, off, hp, Nat.lt_of_lt_of_le hlt hb.size, fun k hk => (hb.cell (p := ⟨b, off + k, none⟩) (by show b < B; omega)).trans (hc k hk)⟩
theorem SlAt.still {w w' : World} {p : Option Addr} {n sz : Nat} {cs : List Value} (h : SlAt w p n sz cs) (hb : Still w w') : SlAt w' p n sz cs := h.below (hb.below w.heap.size) (Nat.le_refl _)
theorem SlAt.nil (w : World) (p : Option Addr) (sz : Nat) : SlAt w p 0 sz [] := ⟨by simp, Nat.zero_le _, fun h => by simp at h⟩
theorem slAt_own {w : World} {base : Nat} {e : TypeId} {p : Option Addr} {n c sz : Nat} {cs : List Value} (h : ownsAt w base e sz (.slice p n c) n cs) : SlAt w p n sz cs := by
  rcases h.2 with ⟨hv, rfl⟩ | ⟨g, off, cap, cur, hv, hbg, hgg, hnc, hcm, hcs, htake⟩
  · cases hv
    exact ⟨h.1, Nat.zero_le _, fun h => by simp at h⟩
  · cases hv
    refine ⟨h.1, Nat.le_trans hnc hcm, fun _ => ⟨g, off, rfl, (Array.getElem?_eq_some_iff.1 hgg).1, fun k hk => ?_⟩⟩
    have hl := h.1
    have hx : cs[k]? = some cs[k] := List.getElem?_eq_getElem (by omega)
    have := h.cells (g := g) k cs[k] hx
    rw [Addr.add_lit] at this
    rw [this, hx]
theorem slAt_row {w : World} {base : Nat} {e : TypeId} {p : Option Addr} {n c sz : Nat} {cs : List Value} (h : w.ownsRow base e sz (.slice p n c) n cs) : SlAt w p n sz cs := slAt_own (ownsAt_of_row h)

/-! ### Bytes -/
def byteV (b : UInt8) : Value := .int .u8 (b.toNat : Int)
def bv (l : List UInt8) : List Value := l.map byteV
theorem bv_length (l : List UInt8) : (bv l).length = l.length := List.length_map _
theorem bv_append (l m : List UInt8) : bv (l ++ m) = bv l ++ bv m := List.map_append
theorem bv_take (l : List UInt8) (k : Nat) : bv (l.take k) = (bv l).take k := List.map_take
theorem bv_drop (l : List UInt8) (k : Nat) : bv (l.drop k) = (bv l).drop k := List.map_drop
theorem bv_one (l : List UInt8) : ∀ u ∈ bv l, u.oneCell' = true := by
  intro u hu
  obtain ⟨_, _, rfl⟩ := List.mem_map.1 hu
  rfl
theorem bv_get (l : List UInt8) (k : Nat) : (bv l)[k]? = (l[k]?).map byteV := List.getElem?_map
theorem bv_getD (l : List UInt8) (k : Nat) (h : k < l.length) : (bv l)[k]? = some (byteV (l.getD k 0)) := by
  rw [bv_get, List.getD_eq_getElem?_getD, List.getElem?_eq_getElem h]; rfl
theorem byteV_inj {a b : UInt8} (h : byteV a = byteV b) : a = b := by
  simp only [byteV, Value.int.injEq, true_and] at h
  exact UInt8.toNat_inj.1 (by omega)
theorem bv_inj : ∀ {l m : List UInt8}, bv l = bv m → l = m
  | [], [], _ => rfl
  | [], _ :: _, h => by simp [bv] at h
  | _ :: _, [], h => by simp [bv] at h
  | a :: l, b :: m, h => by
    simp only [bv, List.map_cons, List.cons.injEq] at h
    rw [byteV_inj h.1, bv_inj (l := l) (m := m) h.2]

/-! ### An operation by the equation of its run -/
theorem wp_by_run {P : Program} {o : Oper} {a : Act} {w w' : World} {v : Value} {K : Act → World → Prop} {Q : Exit → Act → World → Prop} (hr : (execOp a.eval o).run P w = .ok (.value v) w') (h : K (a.put o.dst v) w') : o.wp P a w K Q := by
  unfold Oper.wp
  rw [hr]
  exact h
theorem wpList_by_run {P : Program} {ops : Array Oper} {rest : List Oper} {o : Oper} {a : Act} {w w' : World} {v : Value} {Q : Exit → Act → World → Prop} (hgd : o.guard = none) (hr : (execOp a.eval o).run P w = .ok (.value v) w')
    (h : wpList P ops Q rest (a.put o.dst v) w') : wpList P ops Q (o :: rest) a w :=
  wpList_plain hgd fun _ hK => wp_by_run hr (hK _ _ h)
theorem step_by_run {P : Program} {ops : Array Oper} {o : Oper} {a : Act} {w w' : World} {v : Value} {K : Act → World → Prop} {Q : Exit → Act → World → Prop} {E : Prop} (hgd : o.guard = none) (hr : (execOp a.eval o).run P w = .ok (.value v) w')
    (h : K (a.put o.dst v) w') : if Region.wanted o (yielded ops a.tmps) = true then Oper.wp P o a w K Q else E := by
  have hw : Region.wanted o (yielded ops a.tmps) = true := by simp [Region.wanted, hgd]
  rw [if_pos hw]
  exact wp_by_run hr h
end Coup
