/- Dealing out, plainly: near, in order, together the amount, the same for alike weights. -/
import Derived.Test.YtknjiohhlemeiaaFareK
namespace Go.Proofs.Ytknjiohhlemeiaa
open Go Go.RowKit Coup

theorem gi_map {f : Int → Int} {l : List Int} {i : Nat} (h : i < l.length) : gi (l.map f) i = f (gi l i) := by
  unfold gi
  rw [List.getD_eq_getElem?_getD, List.getD_eq_getElem?_getD, List.getElem?_map, List.getElem?_eq_getElem h]
  rfl
theorem gi_ext {l m : List Int} (h : l.length = m.length) (hg : ∀ i, i < l.length → gi l i = gi m i) : l = m := by
  refine List.ext_getElem h fun i h1 h2 => ?_
  have := hg i h1
  simpa [gi, List.getD_eq_getElem?_getD, List.getElem?_eq_getElem h1, List.getElem?_eq_getElem h2] using this
theorem sumI_set {l : List Int} : ∀ {j : Nat}, j < l.length → ∀ x, sumI (l.set j x) = sumI l - gi l j + x := by
  induction l with
  | nil => intro j h; simp at h
  | cons y l ih =>
    intro j h x
    cases j with
    | zero => have e : gi (y :: l) 0 = y := rfl
              rw [e]; simp only [List.set_cons_zero, sumI]; omega
    | succ j =>
      have e : gi (y :: l) (j + 1) = gi l j := by simp [gi]
      rw [e]
      have := ih (j := j) (by simpa using h) x
      simp only [List.set_cons_succ, sumI, this]; omega
theorem bumps_sum : ∀ (m : Nat) (sh lo : List Int), sh.length = lo.length → 0 < lo.length → sumI (bumps m sh lo) = sumI sh + m := by
  intro m
  induction m with
  | zero => intro sh lo _ _; simp [bumps]
  | succ m ih =>
    intro sh lo hl h0
    have hj : amax lo < lo.length := (amaxTo_max lo lo.length h0).1
    rw [bumps, ih _ _ (by simp [hl]) (by simpa using h0), sumI_set (by omega)]
    omega
theorem rank_mono {l : List Int} {i k : Nat} (h : bef l i k) : rank l i ≤ rank l k := by
  unfold rank
  refine List.countP_mono_left fun m _ hm => ?_
  have hm := of_decide_eq_true hm
  refine decide_eq_true ?_
  unfold bef at *; omega
theorem lost_len (a s : Int) (ws : List Int) : (lostOf a s ws).length = ws.length := by simp [lostOf]
theorem share_len (a s : Int) (ws : List Int) : (sharesOf a s ws).length = ws.length := by simp [sharesOf]
/-- One who lost nothing is not bumped. -/
theorem rank_zero {a : Int} {ws : List Int} (hs : 0 < sumI ws) {i : Nat} (hi : i < ws.length) (h0 : gi (lostOf a (sumI ws) ws) i = 0) : leftOf a ws ≤ rank (lostOf a (sumI ws) ws) i := by
  have hb := lost_bounds (a := a) hs ws
  obtain ⟨_, _, he⟩ := left_bounds (a := a) hs
  have hlen := lost_len a (sumI ws) ws
  generalize hlo : lostOf a (sumI ws) ws = lo at *
  generalize hS : sumI ws = S at *
  -- the positive ones
  have hpos : sumI lo ≤ ((List.range lo.length).countP fun k => decide (0 < gi lo k)) * (S - 1) := by
    clear he h0 hi hlo
    have key : ∀ m, m ≤ lo.length → sumI (lo.take m) ≤ ((List.range m).countP fun k => decide (0 < gi lo k)) * (S - 1) := by
      intro m
      induction m with
      | zero => intro _; simp [sumI]
      | succ m ih =>
        intro hm
        have ih := ih (by omega)
        have hg := gi_get (l := lo) (i := m) (by omega)
        have e : lo.take (m + 1) = lo.take m ++ [gi lo m] := by rw [List.take_add_one, hg]; rfl
        have hbm := hb _ (gi_mem (l := lo) (i := m) (by omega))
        rw [e, sumI_snoc, List.range_succ, List.countP_append, List.countP_singleton]
        by_cases hp : 0 < gi lo m
        · rw [decide_eq_true hp, if_pos rfl, Int.natCast_add, Int.add_mul]
          omega
        · rw [decide_eq_false hp]
          simp only [Bool.false_eq_true, if_false, Nat.add_zero]
          omega
    have := key lo.length (Nat.le_refl _)
    rwa [List.take_length] at this
  have hr : ((List.range lo.length).countP fun k => decide (0 < gi lo k)) ≤ rank lo i := by
    unfold rank
    refine List.countP_mono_left fun m _ hm => ?_
    have hm := of_decide_eq_true hm
    refine decide_eq_true ?_
    unfold bef; omega
  generalize hP : ((List.range lo.length).countP fun k => decide (0 < gi lo k)) = P at *
  have h1 : leftOf a ws * S ≤ P * S := by
    rw [he]
    have : (P : Int) * (S - 1) = P * S - P := by rw [Int.mul_sub]; omega
    omega
  have := Int.le_of_mul_le_mul_right h1 hs
  omega
theorem dealS_len (a : Int) (ws : List Int) : (dealS a ws).length = ws.length := by rw [dealS, bumps_len, share_len]
theorem dealS_gi {a : Int} {ws : List Int} (hs : 0 < sumI ws) {i : Nat} (hi : i < ws.length) :
    gi (dealS a ws) i = a * gi ws i / sumI ws + if (rank (lostOf a (sumI ws) ws) i : Int) < leftOf a ws then 1 else 0 := by
  have hb := lost_bounds (a := a) hs ws
  obtain ⟨h1, h2, _⟩ := left_bounds (a := a) hs
  have h0 : 0 ≤ gi (lostOf a (sumI ws) ws) i := (hb _ (gi_mem (by rw [lost_len]; exact hi))).1
  rw [dealS, bumps_rank _ _ _ (by rw [share_len, lost_len]) (fun k hk => by have := (hb _ (gi_mem hk)).1; omega) (by rw [act_all fun x hx => (hb x hx).1, lost_len]; omega) i (by rw [lost_len]; exact hi)]
  rw [sharesOf, gi_map hi]
  by_cases h : (rank (lostOf a (sumI ws) ws) i : Int) < leftOf a ws
  · rw [if_pos h, if_pos ⟨h0, by omega⟩]
  · rw [if_neg h, if_neg (by omega)]
theorem dealS_sum {a : Int} {ws : List Int} (hs : 0 < sumI ws) : sumI (dealS a ws) = a := by
  obtain ⟨h1, _, _⟩ := left_bounds (a := a) hs
  have hn : 0 < ws.length := by
    cases ws with
    | nil => simp [sumI] at hs
    | cons x l => simp
  rw [dealS, bumps_sum _ _ _ (by rw [share_len, lost_len]) (by rw [lost_len]; exact hn)]
  unfold leftOf at *
  omega
/-- What is not the share rounded down is that and one more, where something was lost. -/
theorem dealS_near {a : Int} {ws : List Int} (hs : 0 < sumI ws) {i : Nat} (hi : i < ws.length) :
    gi (dealS a ws) i = a * gi ws i / sumI ws ∨ (gi (dealS a ws) i = a * gi ws i / sumI ws + 1 ∧ a * gi ws i % sumI ws ≠ 0) := by
  rw [dealS_gi hs hi]
  by_cases h : (rank (lostOf a (sumI ws) ws) i : Int) < leftOf a ws
  · rw [if_pos h]
    refine .inr ⟨rfl, fun q => ?_⟩
    have := rank_zero (a := a) hs hi (by rw [lostOf, gi_map hi]; exact q)
    omega
  · rw [if_neg h]; exact .inl (by omega)
theorem dealS_order {a : Int} {ws : List Int} (ha : 0 ≤ a) (hs : 0 < sumI ws) {i k : Nat} (hi : i < ws.length) (hk : k < ws.length) (h : gi ws k < gi ws i) : gi (dealS a ws) k ≤ gi (dealS a ws) i := by
  have hm : a * gi ws k ≤ a * gi ws i := Int.mul_le_mul_of_nonneg_left (by omega) ha
  have hq := Int.ediv_le_ediv hs hm
  rcases Int.lt_or_eq_of_le hq with h1 | h1
  · rw [dealS_gi hs hi, dealS_gi hs hk]
    split <;> split <;> omega
  · rcases Int.lt_or_eq_of_le ha with h0 | h0
    · have hlt : a * gi ws k < a * gi ws i := Int.mul_lt_mul_of_pos_left h h0
      have e1 := Int.mul_ediv_add_emod (a * gi ws k) (sumI ws)
      have e2 := Int.mul_ediv_add_emod (a * gi ws i) (sumI ws)
      rw [h1] at e1
      have hb : bef (lostOf a (sumI ws) ws) i k := by
        refine .inl ?_
        rw [lostOf, gi_map hi, gi_map hk]
        omega
      have := rank_mono hb
      rw [dealS_gi hs hi, dealS_gi hs hk, h1]
      split <;> split <;> omega
    · subst h0
      have n1 := dealS_near (a := 0) hs hk
      have n2 := dealS_near (a := 0) hs hi
      simp only [Int.zero_mul, Int.zero_emod, Int.zero_ediv, ne_eq, not_true_eq_false, and_false, or_false] at n1 n2
      omega
theorem dealS_bound {a : Int} {ws : List Int} (ha : 0 ≤ a) (hs : 0 < sumI ws) (hw : ∀ x ∈ ws, 0 ≤ x) : ∀ x ∈ dealS a ws, 0 ≤ x ∧ x ≤ a + 1 := by
  intro x hx
  obtain ⟨i, hi, rfl⟩ := List.mem_iff_getElem.1 hx
  have hi2 : i < ws.length := by rw [← dealS_len a ws]; exact hi
  have e : (dealS a ws)[i] = gi (dealS a ws) i := by simp [gi, List.getD_eq_getElem?_getD, List.getElem?_eq_getElem hi]
  have hb := share_bounds (a := a) (s := sumI ws) (ws := ws) ha hs (fun y hy => ⟨hw y hy, mem_le_sumI hw y hy⟩) (a * gi ws i / sumI ws) (List.mem_map.2 ⟨_, gi_mem hi2, rfl⟩)
  rw [e]
  rcases dealS_near (a := a) hs hi2 with h | ⟨h, _⟩ <;> omega
/-! ## Weights that are times as great -/
theorem bumps_like (m : Nat) (sh lo lo2 : List Int) (hl : sh.length = lo.length) (hl2 : lo2.length = lo.length) (h1 : ∀ x ∈ lo, 0 ≤ x) (h2 : ∀ x ∈ lo2, 0 ≤ x) (hm : m ≤ lo.length) (hr : ∀ i, i < lo.length → rank lo i = rank lo2 i) : bumps m sh lo = bumps m sh lo2 := by
  refine gi_ext (by rw [bumps_len, bumps_len]) fun i hi => ?_
  rw [bumps_len] at hi
  have a1 := h1 _ (gi_mem (l := lo) (i := i) (by omega))
  have a2 := h2 _ (gi_mem (l := lo2) (i := i) (by omega))
  rw [bumps_rank m sh lo hl (fun k hk => by have := h1 _ (gi_mem hk); omega) (by rw [act_all h1]; exact hm) i (by omega),
    bumps_rank m sh lo2 (by omega) (fun k hk => by have := h2 _ (gi_mem hk); omega) (by rw [act_all h2]; omega) i (by omega), hr i (by omega)]
  by_cases h : rank lo2 i < m
  · rw [if_pos ⟨a1, h⟩, if_pos ⟨a2, h⟩]
  · rw [if_neg (by omega), if_neg (by omega)]
theorem sumI_times (ws : List Int) (t : Int) : sumI (ws.map (· * t)) = sumI ws * t := by
  induction ws with
  | nil => simp [sumI]
  | cons x l ih => simp only [List.map_cons, sumI, ih, Int.add_mul]
theorem dealS_times {a t : Int} {ws : List Int} (hs : 0 < sumI ws) (ht : 0 < t) : dealS a (ws.map (· * t)) = dealS a ws := by
  have hst : 0 < sumI ws * t := Int.mul_pos hs ht
  have e1 : sharesOf a (sumI (ws.map (· * t))) (ws.map (· * t)) = sharesOf a (sumI ws) ws := by
    rw [sumI_times]
    unfold sharesOf
    rw [List.map_map]
    refine List.map_congr_left fun x _ => ?_
    show a * (x * t) / (sumI ws * t) = a * x / sumI ws
    rw [← Int.mul_assoc, Int.mul_ediv_mul_of_pos_left _ _ ht]
  have e2 : lostOf a (sumI (ws.map (· * t))) (ws.map (· * t)) = (lostOf a (sumI ws) ws).map (· * t) := by
    rw [sumI_times]
    unfold lostOf
    rw [List.map_map, List.map_map]
    refine List.map_congr_left fun x _ => ?_
    show a * (x * t) % (sumI ws * t) = a * x % sumI ws * t
    rw [← Int.mul_assoc, Int.mul_comm _ t, Int.mul_comm (sumI ws) t, Int.mul_emod_mul_of_pos _ _ ht, Int.mul_comm]
  have e3 : leftOf a (ws.map (· * t)) = leftOf a ws := by unfold leftOf; rw [e1]
  obtain ⟨h1, h2, _⟩ := left_bounds (a := a) hs
  have hb := lost_bounds (a := a) hs ws
  unfold dealS
  rw [e1, e2, e3]
  refine (bumps_like _ _ _ _ (by rw [share_len, lost_len]) (by simp) (fun x hx => (hb x hx).1) (fun x hx => ?_) (by rw [lost_len]; omega) fun i hi => ?_).symm
  · obtain ⟨y, hy, rfl⟩ := List.mem_map.1 hx
    exact Int.mul_nonneg (hb y hy).1 (Int.le_of_lt ht)
  · unfold rank
    rw [List.length_map]
    refine List.countP_congr fun k hk => ?_
    have hk := List.mem_range.1 hk
    simp only [decide_eq_true_eq]
    unfold bef
    rw [gi_map hk, gi_map hi]
    have c1 : ∀ x y : Int, x * t < y * t ↔ x < y := fun x y => ⟨fun h => Int.lt_of_mul_lt_mul_right h (Int.le_of_lt ht), fun h => Int.mul_lt_mul_of_pos_right h ht⟩
    have c2 : ∀ x y : Int, x * t = y * t ↔ x = y := fun x y => ⟨fun h => Int.eq_of_mul_eq_mul_right (Int.ne_of_gt ht) h, fun h => by rw [h]⟩
    rw [c1, c2]
/-! ## Weights of 0 among them -/
theorem gi_append_l {l m : List Int} {i : Nat} (h : i < l.length) : gi (l ++ m) i = gi l i := by
  simp [gi, List.getD_eq_getElem?_getD, List.getElem?_append_left h]
theorem gi_append_r {l m : List Int} {i : Nat} : gi (l ++ m) (l.length + i) = gi m i := by
  unfold gi
  rw [List.getD_eq_getElem?_getD, List.getD_eq_getElem?_getD, List.getElem?_append_right (by omega), Nat.add_sub_cancel_left]
theorem gi_rep0 (c i : Nat) : gi (List.replicate c 0) i = 0 := by
  by_cases h : i < c
  · simp [gi, List.getD_eq_getElem?_getD, h]
  · simp [gi, List.getD_eq_getElem?_getD, h]
/-- The first m weights, with c i noughts ahead of the weight i. -/
def withT (c : Nat → Nat) (ws : List Int) : Nat → List Int
  | 0 => []
  | m + 1 => withT c ws m ++ List.replicate (c m) 0 ++ [gi ws m]
def fromT (c : Nat → Nat) (ws : List Int) (m : Nat) : Nat := (withT c ws m).length + c m
theorem withT_len (c : Nat → Nat) (ws : List Int) (m : Nat) : (withT c ws (m + 1)).length = fromT c ws m + 1 := by simp [withT, fromT]; omega
theorem fromT_lt {c : Nat → Nat} {ws : List Int} {i m : Nat} (h : i < m) : fromT c ws i < (withT c ws m).length := by
  induction m with
  | zero => omega
  | succ m ih =>
    rw [withT_len]
    by_cases e : i = m
    · subst e; omega
    · have := ih (by omega)
      unfold fromT at *; omega
theorem fromT_mono {c : Nat → Nat} {ws : List Int} {i k : Nat} (h : i < k) : fromT c ws i < fromT c ws k := by
  have := fromT_lt (c := c) (ws := ws) h
  unfold fromT at *; omega
theorem withT_gi {c : Nat → Nat} {ws : List Int} {i m : Nat} (h : i < m) : gi (withT c ws m) (fromT c ws i) = gi ws i := by
  induction m with
  | zero => omega
  | succ m ih =>
    unfold withT
    by_cases e : i = m
    · subst e
      have : fromT c ws i = (withT c ws i ++ List.replicate (c i) 0).length + 0 := by simp [fromT]
      rw [this, gi_append_r]; rfl
    · have h1 := fromT_lt (c := c) (ws := ws) (i := i) (m := m) (by omega)
      rw [List.append_assoc, gi_append_l h1, ih (by omega)]
theorem sumI_rep0 (c : Nat) : sumI (List.replicate c 0) = 0 := by
  induction c with
  | zero => rfl
  | succ c ih => simp [List.replicate_succ, sumI, ih]
theorem withT_sum {c : Nat → Nat} {ws : List Int} {m : Nat} (h : m ≤ ws.length) : sumI (withT c ws m) = sumI (ws.take m) := by
  induction m with
  | zero => simp [withT, sumI]
  | succ m ih =>
    have e : ws.take (m + 1) = ws.take m ++ [gi ws m] := by rw [List.take_add_one, gi_get (by omega)]; rfl
    rw [withT, sumI_snoc, sumI_append, sumI_rep0, ih (by omega), e, sumI_snoc]; omega
/-- What is made of each, 0 of 0. -/
theorem map_withT (f : Int → Int) (h0 : f 0 = 0) (c : Nat → Nat) (ws : List Int) (m : Nat) (hm : m ≤ ws.length) : (withT c ws m).map f = withT c (ws.map f) m := by
  induction m with
  | zero => rfl
  | succ m ih =>
    simp only [withT, List.map_append, ih (by omega), List.map_replicate, h0, List.map_cons, List.map_nil]
    rw [gi_map (by omega)]
theorem fromT_map (f : Int → Int) (c : Nat → Nat) (ws : List Int) (m : Nat) (hm : m ≤ ws.length) (h0 : f 0 = 0) : fromT c (ws.map f) m = fromT c ws m := by
  unfold fromT
  rw [← map_withT f h0 c ws m hm, List.length_map]
/-- One whose loss is more than 0 stands as it stood. -/
theorem rank_with (c : Nat → Nat) (lo : List Int) {i : Nat} (hi : i < lo.length) (h0 : 0 < gi lo i) : rank (withT c lo lo.length) (fromT c lo i) = rank lo i := by
  unfold rank
  have key : ∀ m, m ≤ lo.length → (List.range (withT c lo m).length).countP (fun k => decide (bef (withT c lo lo.length) k (fromT c lo i))) = (List.range m).countP fun k => decide (bef lo k i) := by
    intro m
    induction m with
    | zero => intro _; rfl
    | succ m ih =>
      intro hm
      have ih := ih (by omega)
      have e1 : (withT c lo (m + 1)).length = (withT c lo m).length + c m + 1 := by simp [withT]; omega
      -- every place of the first m + 1 bears what the whole bears
      have hpre : ∀ M, m + 1 ≤ M → ∀ k, k < (withT c lo (m + 1)).length → gi (withT c lo M) k = gi (withT c lo (m + 1)) k := by
        intro M hM
        induction M with
        | zero => omega
        | succ M ihM =>
          intro k hk
          by_cases e : m + 1 = M + 1
          · rw [e]
          · have hle : ∀ a b, a ≤ b → (withT c lo a).length ≤ (withT c lo b).length := by
              intro a b hab
              induction b with
              | zero => have : a = 0 := by omega
                        subst this; exact Nat.le_refl _
              | succ b ihb =>
                by_cases e : a = b + 1
                · subst e; exact Nat.le_refl _
                · have := ihb (by omega)
                  simp only [withT, List.length_append]; omega
            have hk2 := hle (m + 1) M (by omega)
            have := ihM (by omega) k hk
            rw [← this]
            show gi (withT c lo M ++ List.replicate (c M) 0 ++ [gi lo M]) k = _
            rw [List.append_assoc, gi_append_l (by omega)]
      have hpre := hpre lo.length hm
      have hz : ∀ d, d ≤ c m → (List.range ((withT c lo m).length + d)).countP (fun k => decide (bef (withT c lo lo.length) k (fromT c lo i))) = (List.range m).countP fun k => decide (bef lo k i) := by
        intro d
        induction d with
        | zero => intro _; exact ih
        | succ d ihd =>
          intro hd
          rw [← Nat.add_assoc, List.range_succ, List.countP_append, ihd (by omega), List.countP_singleton]
          have hv : gi (withT c lo lo.length) ((withT c lo m).length + d) = 0 := by
            rw [hpre _ (by omega)]
            show gi (withT c lo m ++ List.replicate (c m) 0 ++ [gi lo m]) _ = _
            rw [List.append_assoc, gi_append_r, gi_append_l (by simp; omega), gi_rep0]
          rw [decide_eq_false]
          · simp
          · unfold bef
            rw [hv, withT_gi hi]; omega
      rw [e1, List.range_succ, List.countP_append, hz _ (Nat.le_refl _), List.range_succ, List.countP_append, List.countP_singleton, List.countP_singleton]
      have e2 : (withT c lo m).length + c m = fromT c lo m := rfl
      rw [e2]
      have e3 : decide (bef (withT c lo lo.length) (fromT c lo m) (fromT c lo i)) = decide (bef lo m i) := by
        rw [decide_eq_decide]
        unfold bef
        rw [withT_gi hi, withT_gi (by omega)]
        have a1 := fun h : m < i => fromT_mono (c := c) (ws := lo) h
        have a2 := fun h : i < m => fromT_mono (c := c) (ws := lo) h
        have a3 : m = i → fromT c lo m = fromT c lo i := fun h => by rw [h]
        rcases Nat.lt_trichotomy m i with h | h | h
        · have := a1 h; omega
        · have := a3 h; omega
        · have := a2 h; omega
      rw [e3]
  exact key lo.length (Nat.le_refl _)
theorem dealS_with {a : Int} {ws : List Int} (c : Nat → Nat) (hs : 0 < sumI ws) {i : Nat} (hi : i < ws.length) :
    gi (dealS a (withT c ws ws.length)) (fromT c ws i) = gi (dealS a ws) i := by
  have hsum : sumI (withT c ws ws.length) = sumI ws := by rw [withT_sum (Nat.le_refl _), List.take_length]
  have hfl := fromT_lt (c := c) (ws := ws) hi
  have e1 : lostOf a (sumI ws) (withT c ws ws.length) = withT c (lostOf a (sumI ws) ws) ws.length := map_withT _ (by simp) c ws _ (Nat.le_refl _)
  have e2 : leftOf a (withT c ws ws.length) = leftOf a ws := by
    unfold leftOf
    rw [hsum]
    have : sharesOf a (sumI ws) (withT c ws ws.length) = withT c (sharesOf a (sumI ws) ws) ws.length := map_withT _ (by simp) c ws _ (Nat.le_refl _)
    rw [this]
    have := withT_sum (c := c) (ws := sharesOf a (sumI ws) ws) (m := ws.length) (by rw [share_len]; exact Nat.le_refl _)
    rw [this, List.take_of_length_le (by rw [share_len]; exact Nat.le_refl _)]
  have e3 : fromT c (lostOf a (sumI ws) ws) i = fromT c ws i := fromT_map _ c ws i (by omega) (by simp)
  rw [dealS_gi (by rw [hsum]; exact hs) hfl, dealS_gi hs hi, hsum, e2, withT_gi hi, e1]
  have hll := lost_len a (sumI ws) ws
  have hb := (lost_bounds (a := a) hs ws _ (gi_mem (l := lostOf a (sumI ws) ws) (i := i) (by omega))).1
  rcases Int.lt_or_eq_of_le hb with h | h
  · have := rank_with c (lostOf a (sumI ws) ws) (i := i) (by omega) h
    rw [hll, e3] at this
    rw [this]
  · have z1 := rank_zero (a := a) hs hi h.symm
    have z2 := rank_zero (a := a) (ws := withT c ws ws.length) (i := fromT c ws i) (by rw [hsum]; exact hs) hfl (by
      rw [hsum, e1, ← e3, withT_gi hi]; exact h.symm)
    rw [hsum, e2, e1] at z2
    rw [if_neg (by omega), if_neg (by omega)]
theorem withT_mem {c : Nat → Nat} {ws : List Int} {m : Nat} (hm : m ≤ ws.length) {P : Int → Prop} (h0 : P 0) (h : ∀ x ∈ ws, P x) : ∀ x ∈ withT c ws m, P x := by
  induction m with
  | zero => intro x hx; simp [withT] at hx
  | succ m ih =>
    intro x hx
    simp only [withT, List.mem_append, List.mem_replicate, List.mem_singleton] at hx
    rcases hx with (hx | hx) | hx
    · exact ih (by omega) x hx
    · rw [hx.2]; exact h0
    · rw [hx]; exact h _ (gi_mem (by omega))
/-- How often the places say i. -/
def saysT (ps : List Int) (i : Nat) : Nat := ps.countP fun p => decide (p = (i : Int))
theorem withT_size (ps : List Int) (ws : List Int) (m : Nat) : (withT (saysT ps) ws m).length ≤ m + ps.length := by
  have key : ∀ m, (withT (saysT ps) ws m).length = m + ps.countP fun p => decide (0 ≤ p ∧ p < (m : Int)) := by
    intro m
    induction m with
    | zero =>
      have : ps.countP (fun p => decide (0 ≤ p ∧ p < ((0 : Nat) : Int))) = 0 := List.countP_eq_zero.2 fun p _ => by rw [decide_eq_true_iff]; omega
      rw [this]; rfl
    | succ m ih =>
      have : ∀ ps : List Int, ps.countP (fun p => decide (0 ≤ p ∧ p < ((m + 1 : Nat) : Int))) = ps.countP (fun p => decide (0 ≤ p ∧ p < (m : Int))) + saysT ps m := by
        intro ps
        induction ps with
        | nil => rfl
        | cons p ps ihp =>
          unfold saysT at *
          rw [List.countP_cons, List.countP_cons, List.countP_cons, ihp]
          by_cases h1 : p = (m : Int)
          · rw [decide_eq_true (p := 0 ≤ p ∧ p < ((m + 1 : Nat) : Int)) (by omega), decide_eq_false (p := 0 ≤ p ∧ p < (m : Int)) (by omega), decide_eq_true h1]
            simp; omega
          · rw [decide_eq_false h1]
            by_cases h2 : 0 ≤ p ∧ p < (m : Int)
            · rw [decide_eq_true (p := 0 ≤ p ∧ p < ((m + 1 : Nat) : Int)) (by omega), decide_eq_true h2]; simp; omega
            · rw [decide_eq_false (p := 0 ≤ p ∧ p < ((m + 1 : Nat) : Int)) (by omega), decide_eq_false h2]; simp
      rw [this]
      simp only [withT, List.length_append, List.length_replicate, List.length_singleton]
      omega
  have h1 := key m
  have h2 := List.countP_le_length (p := fun p : Int => decide (0 ≤ p ∧ p < (m : Int))) (l := ps)
  omega
end Go.Proofs.Ytknjiohhlemeiaa
