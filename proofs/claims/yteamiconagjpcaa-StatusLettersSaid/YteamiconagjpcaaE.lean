/- The reference's step 'on': all walks of some rows, each with a status more. Conditions: no row is empty, few rows, short ones. -/
import Derived.Test.YteamiconagjpcaaD
namespace Go.Proofs.Yteamiconagjpcaa
open Go Go.RowKit

theorem ownsRow_below {w w' : World} {base : Nat} {e : TypeId} {size : Nat} {v : Value} {n : Nat} {xs : List Value} (h : w.ownsRow base e size v n xs) (hb : Below w.heap.size w w') : w'.ownsRow base e size v n xs := by
  refine ⟨h.1, ?_⟩
  rcases h.2 with hn | ⟨g, cap, cur, rfl, hbg, hgg, rest⟩
  · exact .inl hn
  · exact .inr ⟨g, cap, cur, rfl, hbg, by rw [hb.block g (Array.getElem?_eq_some_iff.1 hgg).1]; exact hgg, rest⟩
theorem ownsRow_mono {w : World} {base b' : Nat} {e : TypeId} {size : Nat} {v : Value} {n : Nat} {xs : List Value} (h : w.ownsRow base e size v n xs) (hb : b' ≤ base) : w.ownsRow b' e size v n xs := by
  refine ⟨h.1, ?_⟩
  rcases h.2 with hn | ⟨g, cap, cur, rfl, hbg, rest⟩
  · exact .inl hn
  · exact .inr ⟨g, cap, cur, rfl, Nat.le_trans hb hbg, rest⟩
theorem ownsRow_block_ne {w : World} {b1 b2 : Nat} {e1 e2 : TypeId} {s1 s2 : Nat} {v1 v2 : Value} {n1 n2 : Nat} {x1 x2 : List Value} (h1 : w.ownsRow b1 e1 s1 v1 n1 x1) (h2 : w.ownsRow b2 e2 s2 v2 n2 x2) (hne : e1 ≠ e2) : v1.ownBlock = none ∨ v1.ownBlock ≠ v2.ownBlock := by
  rcases h1.2 with ⟨rfl, _⟩ | ⟨g1, c1, u1, rfl, _, hg1, _⟩
  · exact .inl rfl
  · right
    rcases h2.2 with ⟨rfl, _⟩ | ⟨g2, c2, u2, rfl, _, hg2, _⟩
    · simp [Value.ownBlock]
    · simp only [Value.ownBlock, ne_eq, Option.some.injEq]
      rintro rfl
      rw [hg1] at hg2
      simp only [Option.some.injEq, Obj.cells.injEq] at hg2
      exact hne hg2.2.1

/-- A slice of the call's own as its three parts. -/
theorem ownsRow_form {w : World} {base : Nat} {e : TypeId} {size : Nat} {v : Value} {n : Nat} {xs : List Value} (h : w.ownsRow base e size v n xs) : ∃ p c, v = .slice p n c := by
  rcases h.2 with ⟨rfl, rfl⟩ | ⟨g, cap, cur, rfl, _⟩
  · exact ⟨_, _, rfl⟩
  · exact ⟨_, _, rfl⟩

theorem intsAt_own {w : World} {base : Nat} {e : TypeId} {p : Option Addr} {n c : Nat} {zs : List Int} (h : w.ownsRow base e 1 (.slice p n c) n (zs.map (.int .i64))) : IntsAt w p n zs := by
  have hl := h.1
  rw [List.length_map, Nat.mul_one] at hl
  rcases h.2 with ⟨hv, rfl⟩ | ⟨g, cap, cur, hv, hbg, hgg, hnc, hcm, hcs, htake⟩
  · cases hv
    exact ⟨hl.symm, Nat.zero_le _, fun h => absurd h (Nat.lt_irrefl 0)⟩
  · cases hv
    refine ⟨hl.symm, Nat.le_trans hnc hcm, fun _ => ⟨g, 0, rfl, (Array.getElem?_eq_some_iff.1 hgg).1, fun k hk => ?_⟩⟩
    have := h.cells (g := g) rfl k (.int .i64 (nth zs k)) (by
      rw [List.getElem?_map, nth, List.getD_eq_getElem?_getD, List.getElem?_eq_getElem (by omega)]; rfl)
    rw [Addr.add_lit] at this
    exact this

theorem IntsAt.below {w w' : World} {p : Option Addr} {n : Nat} {zs : List Int} {B : Nat} (h : IntsAt w p n zs) (hb : Below B w w') (hB : w.heap.size ≤ B) : IntsAt w' p n zs := by
  refine ⟨h.len, h.max, fun h0 => ?_⟩
  obtain ⟨b, off, hp, hlt, hc⟩ := h.at_ h0
  exact ⟨b, off, hp, Nat.lt_of_lt_of_le hlt hb.size, fun k hk => (hb.cell (p := ⟨b, off + k, none⟩) (by show b < B; omega)).trans (hc k hk)⟩
theorem IntsAt.still {w w' : World} {p : Option Addr} {n : Nat} {zs : List Int} (h : IntsAt w p n zs) (hb : Still w w') : IntsAt w' p n zs := h.below (hb.below w.heap.size) (Nat.le_refl _)

/-- Rows of the call's own. -/
def OutAt (w : World) (B : Nat) (v : Value) (yss : List (List Int)) : Prop :=
  ∃ vals : List Value, vals.length = yss.length ∧ w.ownsRow B 26 1 v yss.length vals ∧ ∀ i, i < yss.length → w.ownsRow B 22 1 (vals.getD i undef) (yss.getD i []).length ((yss.getD i []).map (.int .i64))

theorem OutAt.nil (w : World) (B : Nat) : OutAt w B (.slice none 0 0) [] := ⟨[], rfl, World.ownsRow_nil _ _ _ _, fun _ h => absurd h (Nat.not_lt_zero _)⟩
theorem OutAt.below {w w' : World} {B : Nat} {v : Value} {yss : List (List Int)} (h : OutAt w B v yss) (hb : Below w.heap.size w w') : OutAt w' B v yss := by
  obtain ⟨vals, h0, h1, h2⟩ := h
  exact ⟨vals, h0, ownsRow_below h1 hb, fun i hi => ownsRow_below (h2 i hi) hb⟩
theorem OutAt.mono {w : World} {B B' : Nat} {v : Value} {yss : List (List Int)} (h : OutAt w B v yss) (hb : B' ≤ B) : OutAt w B' v yss := by
  obtain ⟨vals, h0, h1, h2⟩ := h
  exact ⟨vals, h0, ownsRow_mono h1 hb, fun i hi => ownsRow_mono (h2 i hi) hb⟩

/-- A row more. -/
theorem OutAt.snoc {w w1 : World} {B : Nat} {v v' u : Value} {yss : List (List Int)} {ys : List Int} (vals : List Value) (hv : vals.length = yss.length)
    (h1 : w.ownsRow B 26 1 v yss.length vals) (h2 : ∀ i, i < yss.length → w.ownsRow B 22 1 (vals.getD i undef) (yss.getD i []).length ((yss.getD i []).map (.int .i64)))
    (hu : w.ownsRow B 22 1 u ys.length (ys.map (.int .i64))) (hown : w1.ownsRow B 26 1 v' (yss.length + 1) (vals ++ [u])) (hg : w.grownBy w1 v.ownBlock) :
    OutAt w1 B v' (yss ++ [ys]) := by
  refine ⟨vals ++ [u], by simp [hv], by rw [List.length_append]; exact hown, fun i hi => ?_⟩
  rw [List.length_append, List.length_singleton] at hi
  by_cases hlt : i < yss.length
  · have e1 : (vals ++ [u]).getD i undef = vals.getD i undef := by rw [List.getD_eq_getElem?_getD, List.getD_eq_getElem?_getD, List.getElem?_append_left (by omega)]
    have e2 : (yss ++ [ys]).getD i [] = yss.getD i [] := by rw [List.getD_eq_getElem?_getD, List.getD_eq_getElem?_getD, List.getElem?_append_left hlt]
    rw [e1, e2]
    exact (h2 i hlt).kept hg (ownsRow_block_ne (h2 i hlt) h1 (by decide))
  · obtain rfl : i = yss.length := by omega
    have e1 : (vals ++ [u]).getD yss.length undef = u := by rw [List.getD_eq_getElem?_getD, List.getElem?_append_right (by omega), hv]; simp
    have e2 : (yss ++ [ys]).getD yss.length [] = ys := by rw [List.getD_eq_getElem?_getD, List.getElem?_append_right (Nat.le_refl _)]; simp
    rw [e1, e2]
    exact hu.kept hg (ownsRow_block_ne hu h1 (by decide))

/-- Rows that are read. -/
structure RowsAt (w : World) (p : Option Addr) (n : Nat) (yss : List (List Int)) : Prop where
  len : n = yss.length
  max : n ≤ maxLen
  at_ : 0 < n → ∃ b off, p = some ⟨b, off, none⟩ ∧ b < w.heap.size ∧ ∀ k, k < n → ∃ q c, w.cell? ⟨b, off + k, none⟩ = some (.slice q (yss.getD k []).length c) ∧ IntsAt w q (yss.getD k []).length (yss.getD k [])
theorem RowsAt.below {w w' : World} {p : Option Addr} {n : Nat} {zs : List (List Int)} {B : Nat} (h : RowsAt w p n zs) (hb : Below B w w') (hB : w.heap.size ≤ B) : RowsAt w' p n zs := by
  refine ⟨h.len, h.max, fun h0 => ?_⟩
  obtain ⟨b, off, hp, hlt, hc⟩ := h.at_ h0
  refine ⟨b, off, hp, Nat.lt_of_lt_of_le hlt hb.size, fun k hk => ?_⟩
  obtain ⟨q, c, h1, h2⟩ := hc k hk
  exact ⟨q, c, (hb.cell (p := ⟨b, off + k, none⟩) (by show b < B; omega)).trans h1, h2.below hb hB⟩

theorem OutAt.rows {w : World} {B : Nat} {v : Value} {yss : List (List Int)} (h : OutAt w B v yss) : ∃ p c, v = .slice p yss.length c ∧ RowsAt w p yss.length yss := by
  obtain ⟨vals, h0, h1, h2⟩ := h
  obtain ⟨p, c, rfl⟩ := ownsRow_form h1
  refine ⟨p, c, rfl, rfl, ?_, ?_⟩
  · rcases h1.2 with ⟨hv, he⟩ | ⟨g, cap, cur, hv, hbg, hgg, hnc, hcm, hcs, htake⟩
    · rw [he]; exact Nat.zero_le _
    · exact Nat.le_trans hnc hcm
  · intro hp
    rcases h1.2 with ⟨hv, he⟩ | ⟨g, cap, cur, hv, hbg, hgg, hnc, hcm, hcs, htake⟩
    · rw [he] at hp; exact absurd hp (Nat.lt_irrefl _)
    · cases hv
      refine ⟨g, 0, rfl, (Array.getElem?_eq_some_iff.1 hgg).1, fun k hk => ?_⟩
      obtain ⟨q, c, hq⟩ := ownsRow_form (h2 k hk)
      have h3 := h2 k hk
      rw [hq] at h3
      refine ⟨q, c, ?_, intsAt_own h3⟩
      have := h1.cells (g := g) rfl k (vals.getD k undef) (by rw [List.getD_eq_getElem?_getD, List.getElem?_eq_getElem (by omega)]; rfl)
      rw [Addr.add_lit, hq] at this
      exact this

/-- The plain step. -/
def lastOf (row : List Int) : Int := nth row (row.length - 1)
def goesB (row : List Int) (s : Int) : Bool := !(row.any fun x => x == s) && leadsB (lastOf row) s
def midTo (row : List Int) (j : Nat) : List (List Int) := ((upTo j).filter (goesB row)).map fun s => row ++ [s]
def onTo (xss : List (List Int)) (k : Nat) : List (List Int) := (xss.take k).flatMap fun row => midTo row 9
def onL (xss : List (List Int)) : List (List Int) := xss.flatMap fun row => midTo row 9
theorem midTo_yes {row : List Int} {k : Nat} (h : goesB row ((k : Int) + 1) = true) : midTo row (k + 1) = midTo row k ++ [row ++ [(k : Int) + 1]] := by
  simp [midTo, upTo_succ, List.filter_append, h]
theorem midTo_no {row : List Int} {k : Nat} (h : goesB row ((k : Int) + 1) = false) : midTo row (k + 1) = midTo row k := by
  simp [midTo, upTo_succ, List.filter_append, h]
theorem onTo_succ {xss : List (List Int)} {k : Nat} (hk : k < xss.length) : onTo xss (k + 1) = onTo xss k ++ midTo (xss.getD k []) 9 := by
  have e : xss.take (k + 1) = xss.take k ++ [xss.getD k []] := by rw [List.take_add_one, List.getElem?_eq_getElem hk, List.getD_eq_getElem?_getD, List.getElem?_eq_getElem hk]; rfl
  rw [onTo, onTo, e, List.flatMap_append, List.flatMap_cons, List.flatMap_nil, List.append_nil]
theorem onTo_all (xss : List (List Int)) : onTo xss xss.length = onL xss := by rw [onTo, List.take_length, onL]
theorem midTo_len (row : List Int) (k : Nat) : (midTo row k).length ≤ k := by
  have := List.length_filter_le (goesB row) (upTo k)
  simpa [midTo, upTo] using this
theorem onTo_len (xss : List (List Int)) : ∀ k, (onTo xss k).length ≤ 9 * k
  | 0 => by simp [onTo]
  | k + 1 => by
    by_cases hk : k < xss.length
    · rw [onTo_succ hk, List.length_append]
      have := onTo_len xss k
      have := midTo_len (xss.getD k []) 9
      omega
    · rw [onTo, List.take_of_length_le (by omega)]
      have := onTo_len xss k
      rw [onTo, List.take_of_length_le (by omega)] at this
      omega

theorem any_take {row : List Int} {s : Int} {m : Nat} (hm : m < row.length) : ((row.take (m + 1)).any fun x => x == s) = (((row.take m).any fun x => x == s) || nth row m == s) := by
  have e : row.take (m + 1) = row.take m ++ [nth row m] := by rw [List.take_add_one, nth, List.getElem?_eq_getElem hm, List.getD_eq_getElem?_getD, List.getElem?_eq_getElem hm]; rfl
  rw [e, List.any_append]
  simp

theorem row_cell {w : World} {br ofr m : Nat} {row : List Int} (hc : ∀ i, i < m → w.cell? ⟨br, ofr + i, none⟩ = some (.int .i64 (nth row i))) (hm : m = row.length) (i : Nat) (u : Value) (hu : (row.map (Value.int .i64))[i]? = some u) : w.cell? ((⟨br, ofr, none⟩ : Addr).add i) = some u := by
  rw [List.getElem?_map] at hu
  obtain ⟨x, hx, rfl⟩ := Option.map_eq_some_iff.1 hu
  have hi : i < row.length := (List.getElem?_eq_some_iff.1 hx).1
  rw [Addr.add_lit, hc i (by omega), nth, List.getD_eq_getElem?_getD, hx]
  rfl

theorem below_two {B : Nat} {a w1 w2 w3 : World} {o : Obj} {v1 : Value} {n : Nat} {xs : List Value} {t : TypeId} (hb : Below B a w1) (hown : w2.ownsRow w1.heap.size t 1 v1 n xs) (hg1 : w1.grownBy w2 (Value.slice none 0 0).ownBlock) (hg2 : (w2.alloc o).grownBy w3 v1.ownBlock) (hB : B ≤ w1.heap.size) : Below B a w3 := by
  have h2 : Below B a w2 := hb.grown hg1 hB (fun j hj => by cases hj)
  have hs := hg1.size
  exact (h2.alloc (by omega) o).grown hg2 (by simp; omega) (fun j hj => Nat.le_trans hB (hown.lt j hj).1)

theorem on_step {w wm w1 w2 w3 w4 : World} {o : Obj} {t1 : TypeId} {v v1 u v3 : Value} {n1 : Nat} {x1 : List Value} {yss : List (List Int)} {row : List Int} {s : Int} {vals : List Value}
    (hb : Below w.heap.size w wm) (hb1 : Below wm.heap.size wm w1) (hown1 : w2.ownsRow w1.heap.size t1 1 v1 n1 x1) (hg1 : w1.grownBy w2 (Value.slice none 0 0).ownBlock) (hg2 : (w2.alloc o).grownBy w3 v1.ownBlock)
    (hvl : vals.length = yss.length) (hvs1 : wm.ownsRow w.heap.size 26 1 v yss.length vals) (hvs2 : ∀ i, i < yss.length → wm.ownsRow w.heap.size 22 1 (vals.getD i undef) (yss.getD i []).length ((yss.getD i []).map (.int .i64)))
    {m : Nat} (hm : m = row.length) (hown2 : w3.ownsRow w1.heap.size 22 1 u (m + 1) (row.map (.int .i64) ++ [.int .i64 s])) {o2 : Obj} (hown3 : w4.ownsRow w.heap.size 26 1 v3 (yss.length + 1) (vals ++ [u])) (hg3 : (w3.alloc o2).grownBy w4 v.ownBlock) :
    OutAt w4 w.heap.size v3 (yss ++ [row ++ [s]]) ∧ Below w.heap.size w w4 := by
  subst hm
  have hb3 := below_two hb1 hown1 hg1 hg2 hb1.size
  have hall : Below wm.heap.size wm (w3.alloc o2) := hb3.alloc hb3.size _
  have hv4 := ownsRow_below hvs1 hall
  refine ⟨OutAt.snoc vals hvl hv4 (fun i hi => ownsRow_below (hvs2 i hi) hall) ?_ hown3 hg3, ?_⟩
  · rw [List.length_append, List.map_append]
    exact (ownsRow_mono hown2 (Nat.le_trans hb.size hb1.size)).alloc _
  · exact (hb.trans (hall.mono hb.size)).grown hg3 (Nat.le_trans hb.size hall.size) (fun j hj => (hvs1.lt j hj).1)

theorem info26 : (Try.prog.info? 26).map (fun i => (i.zero, i.size, i.bytes)) = some (some (.slice none 0 0), 1, 24) := by kernel_rfl

set_option maxHeartbeats 1000000 in
set_option maxRecDepth 100000 in
theorem on29 (p : Option Addr) (n c : Nat) (xss : List (List Int)) (w : World) (hx : RowsAt w p n xss) (hn : n ≤ 1000) (hne : ∀ k, k < n → 1 ≤ (xss.getD k []).length ∧ (xss.getD k []).length ≤ 100) :
    Calls Try.prog 29 #[.slice p n c] w fun e w' => ∃ v, e = .returned v ∧ OutAt w' w.heap.size v (onL xss) ∧ Below w.heap.size w w' := by
  obtain ⟨hx1, hx2, hx3⟩ := hx
  have HX := Lib.hid hx1; clear hx1 hx2
  have HN := Lib.hid hne; clear hne
  obtain ⟨i0, hi, hz0, hz1, hz2⟩ := info_parts info22
  obtain ⟨j0, ji, jz0, jz1, jz2⟩ := info_parts info26
  go_enter Try.func29, Try.ntmps29
  go_wp2
  go_loopw [3, 4] (fun v i wr => ∃ k : Nat, k ≤ n ∧ i = .int .i64 k ∧ OutAt wr w.heap.size v (onTo xss k) ∧ Below w.heap.size w wr) (fun _ i _ => n - (intOf i).toNat)
  case atStart => exact ⟨0, Nat.zero_le _, rfl, OutAt.nil _ _, Below.refl _ _⟩
  case round =>
    obtain ⟨k, hk, rfl, hout, hb⟩ := hrel
    by_cases hlt : k < n
    · obtain ⟨b, off, rfl, hbs, hc⟩ := hx3 (by omega)
      obtain ⟨q, qc, h1, hrow⟩ := hc k hlt
      obtain ⟨hl1, hl2⟩ := HN.out k hlt
      replace h1 := (hb.cell (p := ⟨b, off + k, none⟩) hbs).trans h1
      obtain ⟨row, hr⟩ : ∃ row, row = xss.getD k [] := ⟨_, rfl⟩
      rw [← hr] at h1 hrow hl1 hl2
      obtain ⟨m, hm⟩ : ∃ m, m = row.length := ⟨_, rfl⟩
      rw [← hm] at h1 hrow hl1 hl2
      have HR := Lib.hid hr; clear hr
      have HM := Lib.hid hm; clear hm hc hx3
      obtain ⟨wo, rfl⟩ : ∃ wo : World, wo = wr := ⟨_, rfl⟩
      go_wp2
      go_loopw [3, 6] (fun v s wm => ∃ j : Nat, j ≤ 9 ∧ s = .int .i64 ((j : Int) + 1) ∧ OutAt wm w.heap.size v (onTo xss k ++ midTo row j) ∧ Below w.heap.size w wm) (fun _ s _ => 10 - (intOf s).toNat)
      case atStart => exact ⟨0, Nat.zero_le _, rfl, by simpa [midTo, upTo] using hout, hb⟩
      case round =>
        clear hout hb
        obtain ⟨j, hj, rfl, hout, hb⟩ := hrel
        by_cases hj9 : j < 9
        · obtain ⟨-, -, hrc⟩ := hrow
          obtain ⟨br, ofr, rfl, hbr, hcr⟩ := hrc (by omega)
          clear hrc
          have HC := Lib.hid hcr; clear hcr
          go_wp2
          go_loop [7, 8] (fun h i => ∃ t : Nat, t ≤ m ∧ i = .int .i64 t ∧ h = .bool ((row.take t).any fun x => x == (j : Int) + 1)) (fun _ i => m - (intOf i).toNat)
          case atStart => exact ⟨0, Nat.zero_le _, rfl, rfl⟩
          case round =>
            obtain ⟨t, ht, rfl, rfl⟩ := hrel
            by_cases htm : t < m
            · have h2 := (hb.cell (p := ⟨br, ofr + t, none⟩) hbr).trans (HC.out t htm)
              have hA := any_take (row := row) (s := (j : Int) + 1) (m := t) (by rw [← HM.out]; exact htm)
              have HA := Lib.hid hA; clear hA
              obtain ⟨a, ha⟩ : ∃ a, a = (row.take t).any fun x => x == (j : Int) + 1 := ⟨_, rfl⟩
              rw [← ha] at HA ⊢
              clear ha
              rcases a with _ | _
              · go_wp2
                go_round
                case rel => exact ⟨t + 1, by omega, by go_num, by rw [HA.out, Bool.false_or]⟩
                case measure => simp [intOf]; omega
              · go_wp2
                go_round
                case rel => exact ⟨t + 1, by omega, by go_num, by rw [HA.out, Bool.true_or]⟩
                case measure => simp [intOf]; omega
            · have h9 : t = m := by omega
              have hall : (row.take t).any (fun x => x == (j : Int) + 1) = row.any fun x => x == (j : Int) + 1 := by rw [h9, HM.out, List.take_length]
              rw [hall]
              clear hall h9 ht
              rcases ha : row.any (fun x => x == (j : Int) + 1) with _ | _
              · have HA := Lib.hid ha; clear ha
                have h3 := (hb.cell (p := ⟨br, ofr + (m - 1), none⟩) hbr).trans (HC.out (m - 1) (by omega))
                have hla : nth row (m - 1) = lastOf row := by rw [lastOf, ← HM.out]
                rw [hla] at h3
                clear hla
                obtain ⟨la, hla⟩ : ∃ la, la = lastOf row := ⟨_, rfl⟩
                rw [← hla] at h3
                have HLA := Lib.hid hla; clear hla
                have hx0 : (0 : Int) ≤ m - 1 := by omega
                have hx2 : (m : Int) - 1 < m := by omega
                rcases hl : leadsB la ((j : Int) + 1) with _ | _
                · have HL := Lib.hid hl; clear hl
                  go_wp2_with (first
                    | (go_at_call 21; refine (leads21 _ _ _).mono ?_; rintro e w1 ⟨rfl, hb1⟩; rw [HL.out]))
                  go_roundw
                  case rel => exact ⟨j + 1, by omega, by go_num, by rw [midTo_no (by rw [goesB, HA.out, ← HLA.out, HL.out]; rfl)]; exact hout.below hb1, hb.trans (hb1.mono hb.size)⟩
                  case measure => simp [intOf]; omega
                · have HL := Lib.hid hl; clear hl
                  have hyl : (onTo xss k ++ midTo row j).length ≤ 9009 := by
                    have := onTo_len xss k
                    have := midTo_len row j
                    rw [List.length_append]; omega
                  obtain ⟨yss, hy⟩ : ∃ yss, yss = onTo xss k ++ midTo row j := ⟨_, rfl⟩
                  rw [← hy] at hout hyl
                  have HY := Lib.hid hy; clear hy
                  have hml : m = row.length := HM.out
                  have hrl : (row.map (Value.int .i64)).length = m * 1 := by rw [List.length_map]; omega
                  have HRL := Lib.hid hrl; clear hrl hml
                  obtain ⟨vals, hvl, hvs1, hvs2⟩ := hout
                  have HVL := Lib.hid hvl
                  have HV2 := Lib.hid hvs2
                  clear hvl hvs2
                  obtain ⟨po, co, rfl⟩ := ownsRow_form hvs1
                  have tok1 : True := trivial
                  have tok2 : True := trivial
                  have tok3 : True := trivial
                  go_wp2_with (first
                    | (go_at_call 21; refine (leads21 _ _ _).mono ?_; rintro e w1 ⟨rfl, hb1⟩; rw [HL.out])
                    | (at_builtin; have _t := tok1; refine wpList_append_own _ rfl _ _ 26 rfl w1.heap.size 22 i0 (.int .i64 0) 1 8 Try.underlying26 hi hz0 hz1 hz2 rfl (by decide) (.slice none 0 0) 0 [] rfl (World.ownsRow_nil _ _ _ _) ⟨br, ofr, none⟩ m qc (row.map (.int .i64)) rfl HRL.out (fun i u hu => ((hb.trans (hb1.mono hb.size)).cell (p := (⟨br, ofr, none⟩ : Addr).add i) (by rw [Addr.add_lit]; exact hbr)).trans (row_cell HC.out HM.out i u hu)) (ints_oneCell .i64 row) (by unfold maxLen; omega) (by omega) (Nat.le_refl _) ?_; intro v1 w2 hown1 hg1 _; simp only [Nat.zero_add, List.nil_append] at hown1; clear tok1 _t)
                    | (at_builtin; have _t := tok2; refine wpList_append_own _ rfl _ _ 26 rfl w1.heap.size 22 i0 (.int .i64 0) 1 8 Try.underlying26 hi hz0 hz1 hz2 rfl (by decide) v1 m (row.map (.int .i64)) rfl (hown1.alloc _) ⟨w2.heap.size, 0, none⟩ 1 1 [.int .i64 ((j : Int) + 1)] rfl rfl (cell_one_new _ _ _) (ints_oneCell .i64 [(j : Int) + 1]) (by unfold maxLen; omega) (by omega) (by have := hg1.size; simp; omega) ?_; intro v2 w3 hown2 hg2 _; clear tok2 _t; obtain ⟨p2, c2, hv2⟩ := ownsRow_form hown2; rw [hv2]; rw [hv2] at hown2; clear hv2)
                    | (at_builtin; have _t := tok3; have hb3 := below_two hb1 hown1 hg1 hg2 hb1.size; refine wpList_append_own _ rfl _ _ 48 rfl w.heap.size 26 j0 (.slice none 0 0) 1 24 Try.underlying48 ji jz0 jz1 jz2 rfl (by decide) (.slice po yss.length co) yss.length vals rfl ((ownsRow_below hvs1 hb3).alloc _) ⟨w3.heap.size, 0, none⟩ 1 1 [.slice p2 (m + 1) c2] rfl rfl (cell_one_new _ _ _) (by intro u hu; simp at hu; subst hu; rfl) (by unfold maxLen; omega) (by omega) (by have := hb3.size; have := hb.size; simp; omega) ?_; intro v3 w4 hown3 hg3 _; clear tok3 _t))
                  have R := on_step hb hb1 hown1 hg1 hg2 HVL.out hvs1 HV2.out HM.out hown2 hown3 hg3
                  clear hown1 hown2 hown3 hg1 hg2 hg3 hb1 hvs1
                  go_roundw
                  case rel => exact ⟨j + 1, by omega, by go_num, by rw [midTo_yes (by rw [goesB, HA.out, ← HLA.out, HL.out]; rfl), ← List.append_assoc, ← HY.out]; exact R.1, R.2⟩
                  case measure => simp [intOf]; omega
              · have HA := Lib.hid ha; clear ha
                go_wp2
                go_roundw
                case rel => exact ⟨j + 1, by omega, by go_num, by rw [midTo_no (by rw [goesB, HA.out]; rfl)]; exact hout, hb⟩
                case measure => simp [intOf]; omega
        · have h9 : j = 9 := by omega
          have H9 := Lib.hid h9; clear h9
          have hx := HX.out
          go_wp2
          go_roundw
          case rel => exact ⟨k + 1, by omega, by go_num, by rw [onTo_succ (by omega), ← HR.out, ← H9.out]; exact hout, hb⟩
          case measure => simp [intOf]; omega
    · have h9 : k = n := by omega
      have H9 := Lib.hid h9; clear h9
      have hx := HX.out
      have HX2 := Lib.hid hx; clear hx
      go_wp2
      go_ret
      exact ⟨_, rfl, by rw [← onTo_all, ← HX2.out, ← H9.out]; exact hout, hb⟩

end Go.Proofs.Yteamiconagjpcaa
