import Derived.Test.YtielfpkjoidomaaGreatM1
import Derived.Test.YtielfpkjoidomaaGreatM3
import Derived.Shelf.SlIterI.Nil
import Derived.Shelf.SortM.Plain
import Derived.Shelf.SortM.SortNone
import Derived.Test.YtielfpkjoidomaaGreatProg
namespace Coup
open Go Go.RowKit Go.Maps
section
variable {P : Program} {ρ : Env} {w : World} {d : Option Nat} {ty : TypeId} {pos : String} {af : Array Edge} {gd : Option (Nat × Bool)} {K : Value → World → Prop}
theorem mk_clearMap {t k e : TypeId} {x : Operand} {m N : Nat} {f : Nat → Option Value} (ht : P.underlying t = some (.map k e)) (hm : MapAt P k w m N f) (hx : ev ρ x = .map (some m))
    (h : ∀ w', MapAt P k w' m N (fun _ => none) → Only m w w' → K (.tuple #[]) w') : Mk P ρ w ⟨d, .call ⟨.builtin .clear, #[x], #[t]⟩, ty, pos, af, gd⟩ K := by
  obtain ⟨es, clock, hb, F, hs, hD⟩ := hm
  have hlt := (Array.getElem?_eq_some_iff.1 hb).1
  refine ⟨.tuple #[], Go.ChangeMaps.setBlock w m (.map #[] clock), ?_, h _ ⟨#[], clock, ?_, ⟨by simp, Go.MapKept.stamped_empty clock, by simp⟩, Nat.zero_le _, by rw [kvL_none]; rfl⟩ (turned_only ⟨es, clock, #[], clock, hb, rfl⟩)⟩
  · have h1 := Go.MapKept.run_getObj_map (P := P) hb
    have h2 := Go.MapKept.run_setObj_map (P := P) (.map #[] clock) hb
    simp [execOp, resolve, invoke, builtin, Builtin.clear_, hx, run_underlying ht, h1, h2, Result.andThen, Go.ChangeMaps.setBlock]
  · simp [Go.ChangeMaps.setBlock, hlt]
theorem own_splice {g o : Nat} {base e sz m c : Nat} {xs : List Value} (vs : List Value) (j : Nat) (hown : OwnG w base e sz g o m c xs) (hfit : j + vs.length ≤ xs.length) :
    ∃ cur, row w g cur e ∧ o + j + vs.length ≤ cur.length ∧ ∀ w', row w' g (splice cur (o + j) vs) e → OwnG w' base e sz g o m c (splice xs j vs) := by
  have hlen := hown.1
  rcases hown.2 with ⟨hn, _⟩ | ⟨g', off, cap, cur, he, hb, hg, hmc, hmx, hsz, hcur⟩
  · cases hn
  · cases he
    have hrow : row w g cur.toList e := by unfold row; simpa using hg
    have hle : m * sz ≤ c * sz := Nat.mul_le_mul_right _ hmc
    have hcl : cur.toList.length = cur.size := by simp
    refine ⟨cur.toList, hrow, by omega, fun w' hr => ⟨?_, Or.inr ⟨g, o, c, (splice cur.toList (o + j) vs).toArray, rfl, hb, hr, hmc, hmx, ?_, ?_⟩⟩⟩
    · simp only [splice, List.length_append, List.length_take, List.length_drop]; omega
    · simp only [splice, List.size_toArray, List.length_append, List.length_take, List.length_drop]; omega
    · rw [← hcur]
      have hm2 : ((cur.toList.drop o).take (m * sz)).length = m * sz := by rw [List.length_take, List.length_drop]; omega
      refine List.ext_getElem? fun i => ?_
      rw [List.getElem?_take, List.getElem?_drop, splice_get (by omega), splice_get (by rw [hm2]; omega), List.getElem?_take, List.getElem?_drop]
      by_cases hi : i < m * sz
      · rw [if_pos hi]
        by_cases h2 : i < j
        · rw [if_pos (by omega), if_pos h2, if_pos hi]
        · rw [if_neg (by omega), if_neg h2]
          by_cases h3 : i < j + vs.length
          · rw [if_pos (by omega), if_pos h3]; congr 1; omega
          · rw [if_neg (by omega), if_neg h3, if_pos hi]
      · rw [if_neg hi, if_neg (by omega), if_neg (by omega), if_neg hi]
theorem zeroCells_one {z : Array Value} (hz : ∀ v ∈ z.toList, v.oneCell' = true) (n : Nat) : ∀ v ∈ (Builtin.zeroCells z n).toList, v.oneCell' = true := fun v hv => by
  unfold Builtin.zeroCells at hv
  rw [Array.toList_map, List.mem_map] at hv
  obtain ⟨i, hi, rfl⟩ := hv
  have hi2 : i < n * z.size := by simpa using hi
  have hp : 0 < z.size := Nat.pos_of_ne_zero fun h0 => by rw [h0, Nat.mul_zero] at hi2; omega
  have hlt := Nat.mod_lt i hp
  rw [getElem!_pos z (i % z.size) hlt]
  exact hz _ (by simp)
theorem mk_clearO {t e0 : TypeId} {x : Operand} {z : Value} {g o base e sz m c k cc : Nat} {xs : List Value} (j : Nat) (ht : P.underlying t = some (.slice e0)) (hz : ∀ w, (zeroValue e0).run P w = .ok z w) (hzs : z.cells.size = sz)
    (hz1 : ∀ v ∈ z.cells.toList, v.oneCell' = true) (hown : OwnG w base e sz g o m c xs) (hx : ev ρ x = .slice (some ⟨g, o + j * sz, none⟩) k cc) (hfit : j + k ≤ m)
    (h : ∀ w' zs, zs.length = k * sz → OwnG w' base e sz g o m c (splice xs (j * sz) zs) → Only g w w' → K (.tuple #[]) w') : Mk P ρ w ⟨d, .call ⟨.builtin .clear, #[x], #[t]⟩, ty, pos, af, gd⟩ K := by
  have hlen := hown.1
  have hle : (j + k) * sz ≤ m * sz := Nat.mul_le_mul_right _ hfit
  rw [Nat.add_mul] at hle
  cases k with
  | zero =>
    refine ⟨.tuple #[], w, ?_, h w [] (by simp) ?_ ⟨rfl, rfl, rfl, rfl, fun _ _ => rfl⟩⟩
    · simp [execOp, resolve, invoke, builtin, Builtin.clear_, hx, run_underlying ht, Result.andThen]
    · have : splice xs (j * sz) [] = xs := by simp [splice]
      rw [this]; exact hown
  | succ k =>
    have hzl : (Builtin.zeroCells z.cells (k + 1)).toList.length = (k + 1) * sz := by rw [Array.length_toList, size_zeroCells, hzs]
    have hf2 : j * sz + (Builtin.zeroCells z.cells (k + 1)).toList.length ≤ xs.length := by rw [hzl]; omega
    obtain ⟨cur, hr, hf, hafter⟩ := own_splice (Builtin.zeroCells z.cells (k + 1)).toList (j * sz) hown hf2
    have hst := run_storeCells_at P g (o + j * sz) e (Builtin.zeroCells z.cells (k + 1)).toList 0 cur.toArray w hr (by simpa using hf) (zeroCells_one hz1 _)
    refine ⟨.tuple #[], _, ?_, h (w.setRow g (splice cur (o + j * sz) (Builtin.zeroCells z.cells (k + 1)).toList).toArray) _ hzl (hafter _ (setRow_heap w g _ _ e _ hr)) (Only.setRow _)⟩
    simp only [Nat.add_zero] at hst
    have hst2 : (storeCells ⟨g, o + j * sz, none⟩ (Builtin.zeroCells z.cells (k + 1)).toList).run P w = .ok () (w.setRow g (splice cur (o + j * sz) (Builtin.zeroCells z.cells (k + 1)).toList).toArray) := by simpa [splice] using hst
    simp [execOp, resolve, invoke, builtin, Builtin.clear_, hx, run_underlying ht, hz, hst2, Result.andThen]
theorem mk_appendS {t t' e base sz g o m n cap k c g1 o1 : Nat} {s x : Operand} {ys news : List Value} (ht : P.underlying t = some (.slice e)) (ht' : t' = t) (hsz : sizeIs P e sz = true) (hs : ev ρ s = .slice (some ⟨g, o, none⟩) n cap)
    (hown : OwnG w base e sz g o m cap ys) (hx : ev ρ x = .slice (some ⟨g1, o1, none⟩) k c) (hsrc : SlAt w (some ⟨g1, o1, none⟩) k sz news) (h1 : ∀ u ∈ news, u.oneCell' = true) (hroom : n + k ≤ m)
    (h : ∀ w', OwnG w' base e sz g o m cap (splice ys (n * sz) news) → Only g w w' → K (.slice (some ⟨g, o, none⟩) (n + k) cap) w') : Mk P ρ w ⟨d, .call ⟨.builtin .append, #[s, x], #[t, t']⟩, ty, pos, af, gd⟩ K := by
  subst ht'
  obtain ⟨i, hq, hi⟩ := sizeIs_info hsz
  subst hi
  have hl := hsrc.len
  have hlen := hown.1
  have hle : (n + k) * i.size ≤ m * i.size := Nat.mul_le_mul_right _ hroom
  rw [Nat.add_mul] at hle
  have hmc : m ≤ cap := by
    rcases hown.2 with ⟨hn, _⟩ | ⟨g', off, cap', cur, he, hb, hg, hmc, _⟩
    · cases hn
    · cases he; exact hmc
  obtain ⟨cur, hr, hf, hafter⟩ := own_splice news (n * i.size) hown (by omega)
  have hrun := run_append_room_at (P := P) w t' ty e i ht hq g o n cap cur.toArray hr ⟨g1, o1, none⟩ k c news hl (fun j u hu => by rw [Addr.add_lit]; exact hsrc.cell j hu) h1 (by omega) (by simpa using hf)
  have hrun2 : (Builtin.append_ #[t', t'] ty #[.slice (some ⟨g, o, none⟩) n cap, .slice (some ⟨g1, o1, none⟩) k c]).run P w = .ok (.slice (some ⟨g, o, none⟩) (n + k) cap) (w.setRow g (splice cur (o + n * i.size) news).toArray) := by simpa [splice] using hrun
  refine ⟨_, w.setRow g (splice cur (o + n * i.size) news).toArray, ?_, h _ (hafter _ (setRow_heap w g _ _ e _ hr)) (Only.setRow _)⟩
  simp [execOp, resolve, invoke, builtin, hs, hx, hrun2, Result.andThen]
end
end Coup
namespace Go.Proofs.YtielfpkjoidomaaGreat
open Go Go.RowKit Coup
theorem own_short {w : World} {base e sz g o m n c : Nat} {xs : List Value} (h : OwnG w base e sz g o m c xs) (hn : n ≤ m) : OwnG w base e sz g o n c (xs.take (n * sz)) := by
  have hlen := h.1
  have hle : n * sz ≤ m * sz := Nat.mul_le_mul_right _ hn
  refine ⟨by rw [List.length_take]; omega, ?_⟩
  rcases h.2 with ⟨hn, _⟩ | ⟨g', off, cap, cur, he, hb, hg, hmc, hmx, hsz, hcur⟩
  · cases hn
  · cases he
    exact .inr ⟨g, o, c, cur, rfl, hb, hg, Nat.le_trans hn hmc, hmx, hsz, by rw [← hcur, List.take_take, Nat.min_eq_left hle]⟩
theorem chsV_take {R : Rec} (h : chsOk R) (k : Nat) : (chsV R).take (k * 513) = chsV (R.take k) := by
  by_cases hk : k ≤ R.length
  · have h1 : chsOk (R.take k) := fun c hc => h c (List.mem_of_mem_take hc)
    have e : chsV R = chsV (R.take k) ++ chsV (R.drop k) := by
      rw [chsV, chsV, chsV, ← List.flatMap_append, List.take_append_drop]
    have hl := chsV_len h1
    rw [List.length_take, Nat.min_eq_left hk] at hl
    rw [e, List.take_left' hl]
  · rw [List.take_of_length_le (l := R) (by omega), List.take_of_length_le]
    rw [chsV_len h]
    exact Nat.mul_le_mul_right _ (by omega)
theorem chsV_set {R : Rec} (h : chsOk R) {i : Nat} {c : Ch} (hi : i < R.length) (hc : c.page.length = 512) : splice (chsV R) (i * 513) (chV c) = chsV (R.set i c) := by
  have h1 : chsOk (R.take i) := fun c hc => h c (List.mem_of_mem_take hc)
  have hl := chsV_len h1
  rw [List.length_take, Nat.min_eq_left (by omega)] at hl
  have hcl := chV_len hc
  have hd : ∀ k, (chsV R).drop (k * 513) = chsV (R.drop k) := fun k => by
    by_cases hk : k ≤ R.length
    · have h2 : chsOk (R.take k) := fun c hc => h c (List.mem_of_mem_take hc)
      have e : chsV R = chsV (R.take k) ++ chsV (R.drop k) := by
        rw [chsV, chsV, chsV, ← List.flatMap_append, List.take_append_drop]
      have hl := chsV_len h2
      rw [List.length_take, Nat.min_eq_left hk] at hl
      rw [e, List.drop_left' hl]
    · rw [List.drop_of_length_le (l := R) (by omega), List.drop_of_length_le]
      · rfl
      · rw [chsV_len h]
        exact Nat.mul_le_mul_right _ (by omega)
  have e2 : R.set i c = R.take i ++ (c :: R.drop (i + 1)) := List.set_eq_take_append_cons_drop.trans (by rw [if_pos hi])
  unfold splice
  rw [chsV_take h, hcl, show i * 513 + 513 = (i + 1) * 513 by omega, hd, e2]
  simp [chsV]
end Go.Proofs.YtielfpkjoidomaaGreat
namespace Go.Proofs.YtielfpkjoidomaaGreat
open Go Go.RowKit Coup
def without (R : Rec) (n : Int) : Rec := R.filter fun c => !decide (c.num = n)
theorem without_none {R : Rec} {n : Int} (h : ¬ idxC R n < R.length) : without R n = R := by
  refine List.filter_eq_self.2 fun c hc => ?_
  have h2 : ¬ ∃ x ∈ R, decide (x.num = n) = true := fun he => h (List.findIdx_lt_length.2 he)
  cases hd : decide (c.num = n) with
  | false => rfl
  | true => exact absurd ⟨c, hc, hd⟩ h2
theorem without_first {R : Rec} {n : Int} (h : idxC R n < R.length) : R.take (idxC R n) = without (R.take (idxC R n + 1)) n := by
  have hp : decide ((R[idxC R n]).num = n) = true := List.findIdx_getElem (p := fun c : Ch => decide (c.num = n)) (xs := R) (w := h)
  rw [List.take_add_one, List.getElem?_eq_getElem h, without, List.filter_append]
  have h1 : (R.take (idxC R n)).filter (fun c => !decide (c.num = n)) = R.take (idxC R n) := by
    refine List.filter_eq_self.2 fun c hc => ?_
    obtain ⟨i, hi, rfl⟩ := List.mem_take_iff_getElem.1 hc
    have hlt : i < List.findIdx (fun c : Ch => decide (c.num = n)) R := by
      have : i < idxC R n := by omega
      exact this
    have h3 := List.not_of_lt_findIdx hlt
    rw [h3]; rfl
  rw [h1, Option.toList_some, List.filter_cons, hp]
  simp
theorem without_step {R : Rec} {n : Int} {j : Nat} {c : Ch} (h : R[j]? = some c) : without (R.take (j + 1)) n = if c.num = n then without (R.take j) n else without (R.take j) n ++ [c] := by
  rw [List.take_add_one, h, without, List.filter_append, Option.toList_some]
  by_cases hc : c.num = n
  · rw [if_pos hc]; simp [without, hc]
  · rw [if_neg hc]; simp [without, hc]
theorem zeroCh (w : World) : (zeroValue 73).run Tryz.prog w = .ok (.agg (chV ⟨0, List.replicate 512 0⟩).toArray) w := by kernel_rfl
theorem short_splice {xs zs : List Value} (a : Nat) (h : a ≤ xs.length) : (splice xs a zs).take a = xs.take a := by
  unfold splice
  first
    | rw [List.take_left' (by rw [List.length_take]; omega)]
    | rw [List.append_assoc, List.take_left' (by rw [List.length_take]; omega)]
theorem own_le {w : World} {base e sz g o m c : Nat} {xs : List Value} (h : OwnG w base e sz g o m c xs) : m ≤ c := by
  rcases h.2 with ⟨hn, _⟩ | ⟨g', off, cap, cur, he, hb, hg, hmc, _⟩
  · cases hn
  · cases he; exact hmc
set_option maxRecDepth 20000 in
set_option maxHeartbeats 2000000 in
theorem deleteB (R : Rec) (hR : chsOk R) (g o m c base : Nat) (hm : m = R.length) (b : Nat) (n : Int) (w : World) (h : OwnG w base 73 513 g o m c (chsV R)) (hb : row w b [.int .i64 n] 3) (hbg : b ≠ g) :
    Calls Tryz.prog 72 [.slice (some ⟨g, o, none⟩) m c, .func (.func 73) #[] #[.pointer (some ⟨b, 0, none⟩)]].toArray w (Ret fun v w' => v = .slice (some ⟨g, o, none⟩) (without R n).length c ∧ OwnG w' base 73 513 g o (without R n).length c (chsV (without R n)) ∧ KpB [g] w w') := by
  have hK := KpB.refl [g] w
  have hml : maxLen = 9223372036854775807 := by decide
  have hmx := h.sl.max
  obtain ⟨q, hq⟩ : ∃ q : Int, (if idxC R n < m then (idxC R n : Int) else -1) = q := ⟨_, rfl⟩
  have hix := fun w' (h : SlAt w' (some ⟨g, o, none⟩) m 513 (chsV R)) (hb : row w' b [.int .i64 n] 3) => indexB R hR (some ⟨g, o, none⟩) c m hm b n w' h hb
  simp only [hq] at hix
  have hgl := h.lt
  have hcap := own_le h
  have hbl := hb.lt
  refine calls_W (fn := Tryz.f72) (rs := [.tmp 4]) (n := 42) Tryz.func72 rfl rfl Tryz.ntmps72 (by kernel_rfl) rfl ?_
  refine W_seq ?_
  refine W_region ?_
  refine WR_val rfl (rn_assign) ?_
  refine WR_nil ?_
  refine thenN ?_
  refine W_seq ?_
  refine W_region ?_
  refine WR_val rfl (rn_move) ?_
  refine WR_val rfl (rn_move) ?_
  refine WR_ent rfl (rn_call (by kernel_rfl) rfl) (hix w h.sl hb) ?_
  rintro _ w10 ⟨rfl, hb10⟩
  replace hK := hK.new hb10
  replace h := h.new hb10
  replace hb := hb.new hb10
  refine WR_val rfl (rn_assign) ?_
  refine WR_nil ?_
  refine thenN ?_
  refine W_seq ?_
  refine W_seq ?_
  refine W_region ?_
  refine WR_val rfl (rn_move) ?_
  refine WR_val rfl (rn_eql rfl rfl) ?_
  refine WR_nil ?_
  refine thenN ?_
  refine W_ifp rfl (fun hne => ?_) (fun hne => ?_)
  ·
    refine W_seq ?_
    refine W_region ?_
    refine WR_val rfl (rn_move) ?_
    refine WR_val rfl (rn_assign) ?_
    refine WR_nil ?_
    refine thenN ?_
    refine W_ret ?_
    refine thenR ?_
    refine ret_ret [_] ⟨rfl, trivial⟩ ?_
    have hni : ¬ idxC R n < R.length := fun hl => by rw [if_pos (by omega)] at hq; omega
    rw [without_none hni, ← hm]
    exact ⟨rfl, h, hK⟩
  ·
    have hil : idxC R n < R.length := by
      by_cases hl : idxC R n < R.length
      · exact hl
      · rw [if_neg (by omega)] at hq; exact absurd hq.symm hne
    rw [if_pos (by omega)] at hq
    subst hq
    refine W_skip ?_
    refine thenN ?_
    refine W_seq ?_
    refine W_seq ?_
    refine W_region ?_
    refine WR_val rfl (rn_move) ?_
    refine WR_val rfl (rn_add rfl rfl (Coup.w64 (by omega))) ?_
    refine WR_val rfl (rn_assign) ?_
    refine WR_nil ?_
    refine thenN ?_
    refine W_block ?_
    refine W_loop (α := Nat × Nat × Rec) (idxC R n, idxC R n + 1, R) (fun a => [(5, .int .i64 (a.1 : Nat)), (6, .int .i64 (a.2.1 : Nat)), (0, .slice (some ⟨g, o, none⟩) m c), (1, .func (.func 73) #[] #[.pointer (some ⟨b, 0, none⟩)])])
      (fun a w' => a.1 < a.2.1 ∧ a.2.1 ≤ m ∧ a.2.2.length = m ∧ chsOk a.2.2 ∧ (∀ k, a.2.1 ≤ k → a.2.2[k]? = R[k]?) ∧ a.2.2.take a.1 = without (R.take a.2.1) n ∧ OwnG w' base 73 513 g o m c (chsV a.2.2) ∧ row w' b [.int .i64 n] 3 ∧ KpB [g] w w') (fun a => m - a.2.1)
      ⟨rfl, rfl, rfl, rfl, rfl⟩ ⟨Nat.lt_succ_self _, by show idxC R n + 1 ≤ m; omega, hm.symm, hR, fun _ _ => rfl, without_first hil, h, hb, hK⟩ ?_
    clear h hb hK
    rintro ⟨i, j, T⟩ f wr ⟨hij, hj, hTl, hT, hTR, hTw, h, hb, hK⟩
    dsimp only at *
    refine W_seq ?_
    refine W_seq ?_
    refine W_region ?_
    refine WR_val rfl (rn_move) ?_
    refine WR_val rfl (rn_move) ?_
    refine WR_val rfl (rn_lenSl (e := 73) (sz := 513) (by kernel_rfl) rfl rfl) ?_
    refine WR_val rfl (rn_lss rfl rfl) ?_
    refine WR_nil ?_
    refine thenN ?_
    refine W_ifp rfl (fun hlt => ?_) (fun hlt => ?_)
    ·
      refine W_skip ?_
      refine thenN ?_
      refine W_seq ?_
      refine W_block ?_
      refine W_seq ?_
      have hob : ∃ ch, R[j]? = some ch := ⟨_, List.getElem?_eq_getElem (by omega)⟩
      obtain ⟨ch, hch⟩ := hob
      have hTj := (hTR j (Nat.le_refl _)).trans hch
      have hcl := hR ch (List.mem_of_getElem? hch)
      have hws := without_step (n := n) hch
      have hcl2 := chV_len hcl
      have hco := chV_one ch
      have hKs := hK.k.size
      refine W_region ?_
      refine WR_val rfl (rn_move) ?_
      refine WR_val rfl (rn_move) ?_
      refine WR_val rfl (rn_indexSl (e := 73) (sz := 513) (by kernel_rfl) rfl rfl (j) (by omega) (by omega)) ?_
      refine WR_val rfl (rn_load rfl (ld_ch h.sl hT hTj)) ?_
      refine WR_mk rfl (mk_alloc (([Value.int .i64 0]) ++ (List.replicate 512 (Value.int .u8 0))) (by kernel_rfl) (fun g7 w7 hg7 hr7 hb7 => ?_))
      have lt_g_g7 : g < g7 := Nat.lt_of_lt_of_le h.lt hg7
      have lt_b_g7 : b < g7 := Nat.lt_of_lt_of_le hb.lt hg7
      replace hK := hK.new hb7
      replace h := h.new hb7
      replace hb := hb.new hb7
      refine WR_sk rfl (sk_storeA 513 (chV ch) rfl rfl hr7 (by kernel_rfl) (by first | assumption | (simp; done) | (simp [bv_length, *]; done)) (by first | assumption | (simp; done) | (simp [bv_length, *]; done) | rfl) (by first | exact bv_one _ | assumption | (simp [Value.oneCell']; done)) (fun w901 hr7 ho901 => ?_))
      replace hK := hK.only ho901 (by first | (simp; done) | (right; omega))
      replace h := h.only ho901 (Nat.ne_of_lt lt_g_g7)
      replace hb := hb.only ho901 (Nat.ne_of_lt lt_b_g7)
      refine WR_nil ?_
      refine thenN ?_
      refine W_seq ?_
      refine W_region ?_
      refine WR_val rfl (rn_move) ?_
      refine WR_val rfl (rn_load rfl (Ld.rowA (k := 513) hr7 (by kernel_rfl) (by kernel_rfl) (by first | (simp; done) | (simp [bv_length, *]; done) | assumption))) ?_
      refine WR_ent rfl (rn_callc (by kernel_rfl) rfl rfl) (isB ch b n w901 hb) ?_
      rintro _ w28 ⟨rfl, hb28⟩
      replace hK := hK.new hb28
      replace h := h.new hb28
      replace hb := hb.new hb28
      replace hr7 := hr7.new hb28
      refine WR_val rfl (rn_not rfl) ?_
      refine WR_nil ?_
      refine thenN ?_
      refine W_ifnb rfl (fun hnot => ?_) (fun hnot => ?_)
      ·
        refine W_seq ?_
        have hne2 : ¬ ch.num = n := by simpa using hnot
        rw [if_neg hne2] at hws
        have hTl2 := chsV_len hT
        have hTs := chsV_set hT (i := i) (c := ch) (by omega) hcl
        refine W_region ?_
        refine WR_val rfl (rn_move) ?_
        refine WR_val rfl (rn_move) ?_
        refine WR_val rfl (rn_load rfl (Ld.rowA (k := 513) hr7 (by kernel_rfl) (by kernel_rfl) (by first | (simp; done) | (simp [bv_length, *]; done) | assumption))) ?_
        refine WR_val rfl (rn_indexSl (e := 73) (sz := 513) (by kernel_rfl) rfl rfl (i) (by omega) (by omega)) ?_
        refine WR_sk rfl (sk_storeO (chV ch) (i * 513) h rfl rfl (by rw [hcl2]; kernel_rfl) (by first | (simp only [bv_length]; omega) | omega) hco (fun w902 h ho902 => ?_))
        replace hK := hK.only ho902 (by first | (simp; done) | (right; omega))
        replace hb := hb.only ho902 (by omega)
        replace hr7 := hr7.only ho902 (Nat.ne_of_gt lt_g_g7)
        rw [hTs] at h
        refine WR_nil ?_
        refine thenN ?_
        refine W_region ?_
        refine WR_val rfl (rn_move) ?_
        refine WR_val rfl (rn_add rfl rfl (Coup.w64 (by omega))) ?_
        refine WR_val rfl (rn_assign) ?_
        refine WR_nil ?_
        refine blockN ?_
        refine thenN ?_
        refine W_region ?_
        refine WR_val rfl (rn_move) ?_
        refine WR_val rfl (rn_add rfl rfl (Coup.w64 (by omega))) ?_
        refine WR_val rfl (rn_assign) ?_
        refine WR_nil ?_
        refine loopN ⟨(i + 1, j + 1, T.set i ch), by show m - (j + 1) < m - j; omega, ⟨by go_num, by go_num, rfl, rfl, rfl⟩, by show i + 1 < j + 1; omega, by show j + 1 ≤ m; omega, by show (T.set i ch).length = m; rw [List.length_set]; exact hTl, ?_, ?_, ?_, h, hb, hK⟩
        · intro c hc
          rcases List.mem_or_eq_of_mem_set hc with e | e
          · exact hT c e
          · rw [e]; exact hcl
        · intro k hk
          show (T.set i ch)[k]? = _
          rw [List.getElem?_set, if_neg (by have : j + 1 ≤ k := hk; omega)]
          exact hTR k (Nat.le_trans (Nat.le_succ _) hk)
        · show (T.set i ch).take (i + 1) = without (R.take (j + 1)) n
          rw [hws, ← hTw, List.take_add_one, List.getElem?_set, if_pos rfl, if_pos (by omega), List.take_set_of_le (Nat.le_refl _)]; rfl
      ·
        have hne2 : ch.num = n := by simpa using hnot
        rw [if_pos hne2] at hws
        refine W_skip ?_
        refine blockN ?_
        refine thenN ?_
        refine W_region ?_
        refine WR_val rfl (rn_move) ?_
        refine WR_val rfl (rn_add rfl rfl (Coup.w64 (by omega))) ?_
        refine WR_val rfl (rn_assign) ?_
        refine WR_nil ?_
        refine loopN ⟨(i, j + 1, T), by show m - (j + 1) < m - j; omega, ⟨rfl, by go_num, rfl, rfl, rfl⟩, by show i < j + 1; omega, by show j + 1 ≤ m; omega, hTl, hT, fun k hk => hTR k (Nat.le_trans (Nat.le_succ _) hk), hTw.trans hws.symm, h, hb, hK⟩
    ·
      obtain rfl : j = m := by omega
      rw [List.take_of_length_le (l := R) (by omega)] at hTw
      have hln : (without R n).length = i := by rw [← hTw, List.length_take]; omega
      have hzo := chV_one ⟨0, List.replicate 512 0⟩
      refine W_exit ?_
      refine thenX ?_
      refine loopX ?_
      refine blockX ?_
      refine thenN ?_
      refine W_seq ?_
      refine W_region ?_
      refine WR_val rfl (rn_move) ?_
      refine WR_val rfl (rn_move) ?_
      refine WR_val rfl (rn_sliceSl' (e := 73) (sz := 513) (i) (j) (c) (j - i) (by kernel_rfl) rfl ⟨_, _, rfl, by omega⟩ rfl rfl (by simp) (by omega) (by omega) (by omega) (by omega) (by omega)) ?_
      refine WR_mk rfl (mk_clearO (e0 := 73) (i) (by kernel_rfl) zeroCh (by kernel_rfl) hzo h rfl (by omega) (fun w903 zs903 hzs903 h ho903 => ?_))
      replace hK := hK.only ho903 (by first | (simp; done) | (right; omega))
      replace hb := hb.only ho903 (by omega)
      refine WR_nil ?_
      refine thenN ?_
      refine W_seq ?_
      refine W_region ?_
      refine WR_val rfl (rn_move) ?_
      refine WR_val rfl (rn_move) ?_
      refine WR_val rfl (rn_sliceSl' (e := 73) (sz := 513) (0) (i) (c) (i) (by kernel_rfl) rfl rfl ⟨_, _, rfl, by omega⟩ rfl (by simp) (by omega) (by omega) (by omega) (by omega) (by omega)) ?_
      refine WR_val rfl (rn_assign) ?_
      refine WR_nil ?_
      refine thenN ?_
      refine W_ret ?_
      refine ret_ret [_] ⟨rfl, trivial⟩ ?_
      have hsh := own_short h (n := i) (by omega)
      rw [short_splice _ (by rw [chsV_len hT]; exact Nat.mul_le_mul_right _ (by omega)), chsV_take hT, hTw] at hsh
      rw [hln]
      exact ⟨rfl, hsh, hK⟩
end Go.Proofs.YtielfpkjoidomaaGreat
namespace Go.Proofs.YtielfpkjoidomaaGreat
open Go Go.RowKit Coup
theorem chsV_drop {R : Rec} (h : chsOk R) (k : Nat) : (chsV R).drop (k * 513) = chsV (R.drop k) := by
  by_cases hk : k ≤ R.length
  · have h2 : chsOk (R.take k) := fun c hc => h c (List.mem_of_mem_take hc)
    have e : chsV R = chsV (R.take k) ++ chsV (R.drop k) := by
      rw [chsV, chsV, chsV, ← List.flatMap_append, List.take_append_drop]
    have hl := chsV_len h2
    rw [List.length_take, Nat.min_eq_left hk] at hl
    rw [e, List.drop_left' hl]
  · rw [List.drop_of_length_le (l := R) (by omega), List.drop_of_length_le]
    · rfl
    · rw [chsV_len h]
      exact Nat.mul_le_mul_right _ (by omega)
theorem splice_take0 {l n : List Value} : (splice l 0 n).take n.length = n := by simp [splice]
theorem splice_len0 {l n : List Value} (h : n.length ≤ l.length) : (splice l (0 * 513) n).length = l.length := by
  simp [splice]; omega
set_option maxRecDepth 20000 in
set_option maxHeartbeats 2000000 in
theorem deleteF (R : Rec) (hR : chsOk R) (g o m c base : Nat) (hm : m = R.length) (h2 : 2 ≤ m) (w : World) (h : OwnG w base 73 513 g o m c (chsV R)) :
    Calls Tryz.prog 85 [.slice (some ⟨g, o, none⟩) m c, .int .i64 0, .int .i64 1].toArray w (Ret fun v w' => v = .slice (some ⟨g, o, none⟩) (R.drop 1).length c ∧ OwnG w' base 73 513 g o (R.drop 1).length c (chsV (R.drop 1)) ∧ KpB [g] w w') := by
  have hK := KpB.refl [g] w
  have hml : maxLen = 9223372036854775807 := by decide
  have hmx := h.sl.max
  have hgl := h.lt
  have hcap := own_le h
  have hsr := fun w' (h : OwnG w' base 73 513 g o m c (chsV R)) => (show SlAt w' (some ⟨g, o + 1 * 513, none⟩) (m - 1) 513 (chsV (R.drop 1)) from by
    have h1 := h.sl.sub 1 (m - 1) (by omega)
    rw [chsV_drop hR 1, List.take_of_length_le] at h1
    · exact h1
    · rw [chsV_len (fun c hc => hR c (List.mem_of_mem_drop hc)), List.length_drop, ← hm]; exact Nat.le_refl _)
  have hdl : (R.drop 1).length = m - 1 := by rw [List.length_drop, hm]
  have hd1 := chsV_one (R.drop 1)
  have hzo := chV_one ⟨0, List.replicate 512 0⟩
  refine calls_W (fn := Tryz.f85) (rs := [.tmp 6]) (n := 33) Tryz.func85 rfl rfl Tryz.ntmps85 (by kernel_rfl) rfl ?_
  refine W_seq ?_
  refine W_region ?_
  refine WR_val rfl (rn_assign) ?_
  refine WR_nil ?_
  refine thenN ?_
  refine W_seq ?_
  refine W_region ?_
  refine WR_val rfl (rn_move) ?_
  refine WR_val rfl (rn_move) ?_
  refine WR_val rfl (rn_move) ?_
  refine WR_val rfl (rn_move) ?_
  refine WR_val rfl (rn_lenSl (e := 73) (sz := 513) (by kernel_rfl) rfl rfl) ?_
  refine WR_val rfl (rn_sliceSl' (e := 73) (sz := 513) (0) (1) (m) (1) (by kernel_rfl) rfl ⟨_, _, rfl, by omega⟩ ⟨_, _, rfl, by omega⟩ ⟨_, _, rfl, by omega⟩ (by simp) (by omega) (by omega) (by omega) (by omega) (by omega)) ?_
  refine WR_nil ?_
  refine thenN ?_
  refine W_seq ?_
  refine W_seq ?_
  refine W_region ?_
  refine WR_val rfl (rn_move) ?_
  refine WR_val rfl (rn_move) ?_
  refine WR_val rfl (rn_eql rfl rfl) ?_
  refine WR_nil ?_
  refine thenN ?_
  refine W_fp rfl ((by omega)) ?_
  refine W_skip ?_
  refine thenN ?_
  refine W_seq ?_
  refine W_region ?_
  refine WR_val rfl (rn_move) ?_
  refine WR_val rfl (rn_lenSl (e := 73) (sz := 513) (by kernel_rfl) rfl rfl) ?_
  refine WR_val rfl (rn_assign) ?_
  refine WR_nil ?_
  refine thenN ?_
  refine W_seq ?_
  refine W_draw' [g] (by kernel_rfl) ?_
  intro w901 hb901 hS901
  replace hK := hK.new hb901
  replace h := h.new hb901
  have hK_d901 := hK
  have h_d901 := h
  refine WA_take 0 (by kernel_rfl) rfl (fun _ _ => rn_move) ?_
  refine WA_take 1 (by kernel_rfl) rfl (fun _ _ => rn_move) ?_
  refine WA_take 2 (by kernel_rfl) rfl (fun _ _ => rn_sliceSl' (e := 73) (sz := 513) (0) (0) (c) (0) (by kernel_rfl) rfl rfl ⟨_, _, rfl, by omega⟩ rfl (by simp) (by omega) (by omega) (by omega) (by omega) (by omega)) ?_
  refine WA_take 3 (by kernel_rfl) rfl (fun _ _ => rn_move) ?_
  refine WA_take 4 (by kernel_rfl) rfl (fun _ _ => rn_move) ?_
  refine WA_take 5 (by kernel_rfl) rfl (fun _ _ => rn_sliceSl' (e := 73) (sz := 513) (1) (m) (c) (m - 1) (by kernel_rfl) rfl ⟨_, _, rfl, by omega⟩ rfl rfl (by simp) (by omega) (by omega) (by omega) (by omega) (by omega)) ?_
  refine WA_one 6 (by kernel_rfl) ?_
  refine WO_mk rfl rfl (mk_appendS (e := 73) (sz := 513) (by kernel_rfl) rfl (by kernel_rfl) rfl h rfl (hsr _ h) hd1 (by omega) (fun w26 h ho26 => ?_))
  have hS902 := hS901.add1 ho26 (by first | (left; omega) | (right; simp; done) | (right; simp; omega))
  refine ⟨hS902, ?_⟩
  replace hK := hK.only ho26 (by first | (simp; done) | (right; omega))
  refine WA_take 7 (by kernel_rfl) rfl (fun _ _ => rn_assign) ?_
  refine WA_done (by kernel_rfl) ?_
  refine thenN ?_
  refine W_seq ?_
  refine W_region ?_
  refine WR_val rfl (rn_move) ?_
  refine WR_val rfl (rn_move) ?_
  refine WR_val rfl (rn_lenSl (e := 73) (sz := 513) (by kernel_rfl) rfl rfl) ?_
  refine WR_val rfl (rn_move) ?_
  refine WR_val rfl (rn_sliceSl' (e := 73) (sz := 513) (m - 1) (m) (c) (1) (by kernel_rfl) rfl ⟨_, _, rfl, by omega⟩ ⟨_, _, rfl, by omega⟩ rfl (by simp) (by omega) (by omega) (by omega) (by omega) (by omega)) ?_
  refine WR_mk rfl (mk_clearO (e0 := 73) ((m - 1)) (by kernel_rfl) zeroCh (by kernel_rfl) hzo h rfl (by omega) (fun w903 zs903 hzs903 h ho903 => ?_))
  replace hK := hK.only ho903 (by first | (simp; done) | (right; omega))
  refine WR_nil ?_
  refine thenN ?_
  refine W_seq ?_
  refine W_region ?_
  refine WR_val rfl (rn_move) ?_
  refine WR_val rfl (rn_assign) ?_
  refine WR_nil ?_
  refine thenN ?_
  refine W_ret ?_
  refine ret_ret [_] ⟨rfl, trivial⟩ ?_
  have hsh := own_short h (n := m - 1) (by omega)
  have hld := chsV_len (fun c hc => hR c (List.mem_of_mem_drop hc) : chsOk (R.drop 1))
  rw [hdl] at hld
  have hlR := chsV_len hR
  rw [short_splice _ (by rw [splice_len0 (by omega)]; omega), Nat.zero_mul, Nat.add_zero, Nat.sub_zero, ← hld, splice_take0] at hsh
  rw [hdl]
  exact ⟨by show Value.slice (some ⟨g, o + 0 * 513, none⟩) (0 + (m - 1)) (c - 0) = _; rw [Nat.zero_mul, Nat.add_zero, Nat.zero_add, Nat.sub_zero], hsh, hK⟩
end Go.Proofs.YtielfpkjoidomaaGreat
namespace Go.Proofs
open Go.Shelf
def Tryz.keysP_ren : Go.Shelf.Ren := ⟨fun | 7 => 64 | 10 => 90 | n => n, fun | 23 => 51 | 26 => 3 | 3 => 37 | 28 => 103 | 0 => 0 | 27 => 102 | 33 => 132 | 4 => 4 | n => n, fun | n => n⟩
theorem Tryz.keysP : Go.Proofs.SlLaysZI.n7 Tryz.prog Tryz.keysP_ren := {
  mixed := by kernel_rfl
  f7 := ⟨Tryz.f64.name, by decide, Tryz.func64.trans (congrArg some (by kernel_rfl))⟩
  f10 := ⟨Tryz.f90.name, by decide, Tryz.func90.trans (congrArg some (by kernel_rfl))⟩
  t0 := Tryz.underlying0
  a0 := Tryz.isAgg0
  z0 := Tryz.sizeOf0
  v0 := Tryz.zeroValue0
  t4 := Tryz.underlying4
  a4 := Tryz.isAgg4
  z4 := Tryz.sizeOf4
  v4 := Tryz.zeroValue4
  t23 := Tryz.underlying51
  a23 := Tryz.isAgg51
  z23 := Tryz.sizeOf51
  v23 := Tryz.zeroValue51
  t26 := Tryz.underlying3
  a26 := Tryz.isAgg3
  z26 := Tryz.sizeOf3
  v26 := Tryz.zeroValue3
  t27 := Tryz.underlying102
  a27 := Tryz.isAgg102
  z27 := Tryz.sizeOf102
  v27 := Tryz.zeroValue102
  t28 := Tryz.underlying103
  a28 := Tryz.isAgg103
  z28 := Tryz.sizeOf103
  v28 := Tryz.zeroValue103
  t33 := Tryz.underlying132
  a33 := Tryz.isAgg132
  z33 := Tryz.sizeOf132
  v33 := Tryz.zeroValue132 }
end Go.Proofs
namespace Go.Proofs.YtielfpkjoidomaaGreat
open Go Go.RowKit Go.Maps Go.Sort Go.Shelf Coup
theorem keysCP (mb : Option Nat) (w : World) : Calls Tryz.prog 64 [.map mb].toArray w (Ret fun v w' => v = .func (.func 90) #[] #[.pointer (some ⟨w.heap.size, 0, none⟩)] ∧ w' = w.alloc (.cells #[.map mb] 51) ∧ Below w.heap.size w w') := by
  have h : CallsIn Fence.wide 5 Tryz.prog 64 #[.map mb] w fun e w' => e = .returned (.func (.func 90) #[] #[.pointer (some ⟨w.heap.size, 0, none⟩)]) ∧ w' = w.alloc (.cells #[.map mb] 51) := AnyZI.keys_in Tryz.keysP Fence.wide 5 trivial rfl mb w
  refine (callsIn_wide.1 h).mono ?_
  rintro e w' ⟨rfl, rfl⟩
  exact ⟨_, rfl, rfl, rfl, (Below.refl _ w).alloc (Nat.le_refl _) _⟩
theorem sortedCP {b N : Nat} {f : Nat → Option Value} (w W : World) (hW : W = w.alloc (.cells #[.map (some b)] 51)) (h : MapAt Tryz.prog 3 w b N f) (hN : N ≤ 1000000) :
    Calls Tryz.prog 63 [.func (.func 90) #[] #[.pointer (some ⟨w.heap.size, 0, none⟩)]].toArray W (Ret fun v w' => ∃ p c, v = .slice p (keysOf f 0 N).length c ∧ SlAt w' p (keysOf f 0 N).length 1 (iv (keysOf f 0 N)) ∧ (∀ b o, p = some ⟨b, o, none⟩ → W.heap.size ≤ b) ∧ Below W.heap.size W w') := by
  subst hW
  have hbl := h.lt
  have hle := kvL_len f N 0
  have hml : maxLen = 9223372036854775807 := by decide
  have hsz : Maps.size (DataW.map (kvL f 0 N)) ≤ N := hle
  have hown : (w.alloc (.cells #[.map (some b)] 51)).ownsMap Tryz.prog 3 RH b N (.map (kvL f 0 N)) := by
    obtain ⟨es, clock, hb, Ft, hs, hD⟩ := h
    exact ⟨es, clock, (Below.heap_alloc _ _ b hbl).trans hb, Ft, hs, hD⟩
  have hseq : SeqGives Fence.wide 2 Tryz.prog 90 #[.pointer (some ⟨w.heap.size, 0, none⟩)] encZ (fun ss => ss.Perm (intKeys (DataW.map (kvL f 0 N)))) (Maps.size (DataW.map (kvL f 0 N))) (w.alloc (.cells #[.map (some b)] 51)) :=
    AnyZI.keys_gives (ρ := Tryz.keysP_ren) { Tryz.keysP with } Fence.wide _ trivial rfl (by omega) w.heap.size b N _ _ (by simp) (by simp) hown
  have cS := AnyZI.sorted_in Tryz.sortedA Fence.wide 5 trivial trivial trivial trivial rfl (by omega) (sortsA _) (enters_of Tryz.func89 (by kernel_rfl) rfl) 90 #[.pointer (some ⟨w.heap.size, 0, none⟩)] trivial (enters_of Tryz.func90 (by kernel_rfl) rfl) _ _ (by omega) (by omega) _ hseq
  change CallsIn _ _ Tryz.prog 63 _ _ _ at cS
  refine (callsIn_wide.1 cS).mono ?_
  rintro e w' ⟨v, ss, rfl, hS, hrow, hnil, hb⟩
  have hlen : ss.length = (keysOf f 0 N).length := by rw [← keysOf_kvL, hS.length_eq]
  rw [keysOf_sorted f N 0 hS, hlen] at hrow
  have ho := ownsAt_of_row hrow
  obtain ⟨p, c, rfl⟩ := ho.form
  exact ⟨_, rfl, p, c, rfl, ho.sl, fun b o e => (ho.lt b (by rw [e]; rfl)).1, hb⟩
end Go.Proofs.YtielfpkjoidomaaGreat
namespace Go.Proofs.YtielfpkjoidomaaGreat
open Go Go.RowKit Coup
set_option maxRecDepth 20000 in
theorem keysF {m N : Nat} {f : Nat → Option Value} (w : World) (h : MapAt Tryz.prog 3 w m N f) (hN : N ≤ 1000000) :
    Calls Tryz.prog 36 [.map (some m)].toArray w (Ret fun v w' => (∃ p c, v = .slice p (keysOf f 0 N).length c ∧ SlAt w' p (keysOf f 0 N).length 1 (iv (keysOf f 0 N)) ∧ ∀ b o, p = some ⟨b, o, none⟩ → w.heap.size ≤ b) ∧ Below w.heap.size w w') := by
  have hB := Below.refl w.heap.size w
  have hS := fun w' W hW (h' : MapAt Tryz.prog 3 w' m N f) => sortedCP w' W hW h' hN
  refine calls_W (fn := Tryz.f36) (rs := [.tmp 2]) (n := 6) Tryz.func36 rfl rfl Tryz.ntmps36 (by kernel_rfl) rfl ?_
  refine W_seq ?_
  refine W_region ?_
  refine WR_val rfl (rn_assign) ?_
  refine WR_nil ?_
  refine thenN ?_
  refine W_seq ?_
  refine W_region ?_
  refine WR_val rfl (rn_move) ?_
  refine WR_ent rfl (rn_call (by kernel_rfl) rfl) (keysCP (some m) w) ?_
  rintro _ w4 ⟨rfl, hkw, hb4⟩
  replace hB := hB.acc hb4
  have hsz := hB.size
  refine WR_ent rfl (rn_call (by kernel_rfl) rfl) (hS w w4 hkw h) ?_
  rintro _ w5 ⟨p, c, rfl, hsl, hpb, hb5⟩
  replace hB := hB.acc hb5
  refine WR_val rfl (rn_assign) ?_
  refine WR_nil ?_
  refine thenN ?_
  refine W_ret ?_
  refine ret_ret [_] ⟨rfl, trivial⟩ ?_
  exact ⟨⟨p, c, rfl, hsl, fun b o e => Nat.le_trans hsz (hpb b o e)⟩, hB⟩
end Go.Proofs.YtielfpkjoidomaaGreat
namespace Go.Proofs.YtielfpkjoidomaaGreat
open Go Go.RowKit Coup
abbrev Pg := List UInt8
abbrev PgM := Nat → Option Pg
def pgV (b : Pg) : Value := .agg (bv b).toArray
def mapV (c : PgM) : Nat → Option Value := fun i => (c i).map pgV
def updP (c : PgM) (i : Nat) (v : Option Pg) : PgM := fun j => if j = i then v else c j
def noP : PgM := fun _ => none
theorem mapV_upd (c : PgM) (i : Nat) (v : Option Pg) : updF (mapV c) i (v.map pgV) = mapV (updP c i v) := by
  funext j
  unfold updF mapV updP
  split <;> rfl
theorem mapV_some (c : PgM) (i : Nat) (b : Pg) : updF (mapV c) i (some (.agg (bv b).toArray)) = mapV (updP c i (some b)) := mapV_upd c i (some b)
theorem mapV_none (c : PgM) (i : Nat) : updF (mapV c) i none = mapV (updP c i none) := mapV_upd c i none
structure Pl where
  D : Dk
  G : Lg
  fr : Nat
  ch : PgM
  di : PgM
  cl : Rec
  dead : Bool
def Pl.n (P : Pl) : Nat := cntP P.D.V.length P.G.size
structure PlOk (P : Pl) : Prop where
  lg : LgOk P.D P.G
  n4 : 4 ≤ P.n
  fr2 : 2 ≤ P.fr
  frm : P.fr ≤ 100
  ch : ∀ i b, P.ch i = some b → b.length = 512
  di : ∀ i b, P.di i = some b → b.length = 512
  cl : chsOk P.cl
  cll : P.cl.length ≤ P.fr
def plV (g x s f mc md : Nat) (rv : Value) (dead : Bool) : List Value := [.pointer (some ⟨g, 0, none⟩), .pointer (some ⟨x, 0, none⟩), .int .i64 (s : Int), .int .i64 (f : Int), .map (some mc), .map (some md), rv, .bool dead]
structure PlAt (g x q mc md : Nat) (rv cv : Value) (Y : World → List Nat → Prop) (lo : Nat) (L : List Nat) (P : Pl) (w : World) : Prop where
  lg : LgAt g x Y lo (cv.ownBlock.toList ++ q :: mc :: md :: L) P.D P.G w
  row : row w q (plV g x P.G.size P.fr mc md rv P.dead) 54
  mch : MapAt Tryz.prog 3 w mc P.n (mapV P.ch)
  mdi : MapAt Tryz.prog 3 w md P.n (mapV P.di)
  own : ownsAt w 0 73 513 cv P.cl.length (chsV P.cl)
  qm : q ≠ mc
  qd : q ≠ md
  md' : mc ≠ md
  cq : ∀ b ∈ cv.ownBlock.toList, b ≠ q ∧ b ≠ mc ∧ b ≠ md ∧ lo ≤ b ∧ b ∉ L
  ql : lo ≤ q ∧ q ∉ L
  mcl : lo ≤ mc ∧ mc ∉ L
  mdl : lo ≤ md ∧ md ∉ L
def PZ (q : Nat) (P : Pl) : World → List Nat → Prop := fun w B => ∃ g x mc md cv BD, B = BD ++ (x :: (cv.ownBlock.toList ++ [q, mc, md])) ∧ DkX w g BD P.D ∧ Coup.row w x (lgV g P.G) 109 ∧
  Coup.row w q (plV g x P.G.size P.fr mc md cv P.dead) 54 ∧ MapAt Tryz.prog 3 w mc P.n (mapV P.ch) ∧ MapAt Tryz.prog 3 w md P.n (mapV P.di) ∧ ownsAt w 0 73 513 cv P.cl.length (chsV P.cl) ∧
  (∀ b ∈ BD, b ∉ (x :: (cv.ownBlock.toList ++ [q, mc, md]))) ∧ x ∉ cv.ownBlock.toList ++ [q, mc, md] ∧ q ≠ mc ∧ q ≠ md ∧ mc ≠ md ∧ ∀ b ∈ cv.ownBlock.toList, b ≠ q ∧ b ≠ mc ∧ b ≠ md
instance (q : Nat) (P : Pl) : Thing (PZ q P) :=
  ⟨fun {w w' B M} ⟨g, x, mc, md, cv, BD, e, h1, h2, h3, h4, h5, h6, h7⟩ k hM => by
    subst e
    exact ⟨g, x, mc, md, cv, BD, rfl, h1.kpd k fun b hb => hM b (by simp [hb]), h2.kpd k (hM x (by simp)), h3.kpd k (hM q (by simp)), h4.kpd k (hM mc (by simp)), h5.kpd k (hM md (by simp)), h6.kpd k (fun b hb e => hM b (by simp [e]) hb), h7⟩,
   fun {w B} ⟨g, x, mc, md, cv, BD, e, h1, h2, h3, h4, h5, h6, h7⟩ b hb => by
    subst e
    simp only [List.mem_append, List.mem_cons, List.not_mem_nil, or_false] at hb
    rcases hb with hb | rfl | hb | rfl | rfl | rfl
    · exact h1.lt b hb
    · exact h2.lt
    · exact (h6.lt b (Option.mem_toList.1 hb)).2
    · exact h3.lt
    · exact h4.lt
    · exact h5.lt⟩
section
variable {Y : World → List Nat → Prop} {g x q mc md lo gc : Nat} {rv cv cv2 : Value} {L L2 M : List Nat} {P : Pl} {w w' : World}
namespace PlAt
theorem lo' (h : PlAt g x q mc md rv cv Y lo L P w) : lo ≤ w.heap.size := h.lg.two.lo
theorem lts (h : PlAt g x q mc md rv cv Y lo L P w) : q < w.heap.size ∧ mc < w.heap.size ∧ md < w.heap.size := ⟨h.row.lt, h.mch.lt, h.mdi.lt⟩
theorem ltL (h : PlAt g x q mc md rv cv Y lo L P w) : ∀ b ∈ L, b < w.heap.size := fun b hb => h.lg.two.lt b (by simp [hb])
theorem kpd [hY : Thing Y] (h : PlAt g x q mc md rv cv Y lo L P w) (k : Kp M w w') (hM : ∀ b ∈ M, b < lo ∨ b ∈ L) : PlAt g x q mc md rv cv Y lo L P w' := by
  have hn : ∀ b, lo ≤ b ∧ b ∉ L → b ∉ M := fun b hb hm => (hM b hm).elim (fun hl => absurd hb.1 (Nat.not_le.2 hl)) hb.2
  exact ⟨h.lg.kpd k fun b hb => (hM b hb).imp id fun hm => by simp [hm], h.row.kpd k (hn q h.ql), h.mch.kpd k (hn mc h.mcl), h.mdi.kpd k (hn md h.mdl), h.own.kpd k fun b hb e => hn b (h.cq b (by simp [e])).2.2.2 hb, h.qm, h.qd, h.md', h.cq, h.ql, h.mcl, h.mdl⟩
theorem new [hY : Thing Y] (h : PlAt g x q mc md rv cv Y lo L P w) (hb : Below w.heap.size w w') : PlAt g x q mc md rv cv Y lo L P w' := h.kpd (M := []) (Kp.of_below hb) (by simp)
theorem only [hY : Thing Y] (h : PlAt g x q mc md rv cv Y lo L P w) (ho : Only gc w w') (hg : gc < lo ∨ gc ∈ L) : PlAt g x q mc md rv cv Y lo L P w' := h.kpd (Kp.of_only ho) fun b hb => by rw [List.mem_singleton.1 hb]; exact hg
theorem weak (h : PlAt g x q mc md rv cv Y lo L P w) (h2 : ∀ b ∈ L2, b ∈ L) : PlAt g x q mc md rv cv Y lo L2 P w :=
  ⟨h.lg.weak fun b hb => by
    simp only [List.mem_append, List.mem_cons] at hb ⊢
    rcases hb with hm | hm | hm | hm | hm
    · exact .inl hm
    · exact .inr (.inl hm)
    · exact .inr (.inr (.inl hm))
    · exact .inr (.inr (.inr (.inl hm)))
    · exact .inr (.inr (.inr (.inr (h2 b hm)))), h.row, h.mch, h.mdi, h.own, h.qm, h.qd, h.md', fun b hb => ⟨(h.cq b hb).1, (h.cq b hb).2.1, (h.cq b hb).2.2.1, (h.cq b hb).2.2.2.1, fun hm => (h.cq b hb).2.2.2.2 (h2 b hm)⟩, ⟨h.ql.1, fun hm => h.ql.2 (h2 _ hm)⟩, ⟨h.mcl.1, fun hm => h.mcl.2 (h2 _ hm)⟩, ⟨h.mdl.1, fun hm => h.mdl.2 (h2 _ hm)⟩⟩
theorem newc [hY : Thing Y] (h : PlAt g x q mc md rv cv Y lo L P w) (hb : Below w.heap.size w w') (hg : w.heap.size ≤ gc) (hg' : gc < w'.heap.size) : PlAt g x q mc md rv cv Y lo (gc :: L) P w' := by
  have h2 := h.new hb
  have hlt := h.lts
  refine ⟨(h.lg.newc hb hg hg').weak fun b hb => ?_, h2.row, h2.mch, h2.mdi, h2.own, h.qm, h.qd, h.md', fun b hb => ⟨(h.cq b hb).1, (h.cq b hb).2.1, (h.cq b hb).2.2.1, (h.cq b hb).2.2.2.1, fun hm => ?_⟩, ⟨h.ql.1, fun hm => ?_⟩, ⟨h.mcl.1, fun hm => ?_⟩, ⟨h.mdl.1, fun hm => ?_⟩⟩
  · simp only [List.mem_append, List.mem_cons] at hb ⊢
    rcases hb with hm | hm | hm | hm | hm | hm
    · exact .inr (.inl hm)
    · exact .inr (.inr (.inl hm))
    · exact .inr (.inr (.inr (.inl hm)))
    · exact .inr (.inr (.inr (.inr (.inl hm))))
    · exact .inl hm
    · exact .inr (.inr (.inr (.inr (.inr hm))))
  · rcases List.mem_cons.1 hm with rfl | hm
    · have := (h.own.lt b (Option.mem_toList.1 hb)).2; omega
    · exact (h.cq b hb).2.2.2.2 hm
  · rcases List.mem_cons.1 hm with rfl | hm
    · omega
    · exact h.ql.2 hm
  · rcases List.mem_cons.1 hm with rfl | hm
    · omega
    · exact h.mcl.2 hm
  · rcases List.mem_cons.1 hm with rfl | hm
    · omega
    · exact h.mdl.2 hm
theorem xne (h : PlAt g x q mc md rv cv Y lo L P w) : x ≠ q ∧ x ≠ mc ∧ x ≠ md ∧ x ∉ cv.ownBlock.toList ∧ x ∉ L := by
  have h2n := h.lg.ni
  simp only [List.mem_append, List.mem_cons, not_or] at h2n
  exact ⟨h2n.2.1, h2n.2.2.1, h2n.2.2.2.1, h2n.1, h2n.2.2.2.2⟩
theorem setRow [hY : Thing Y] {rv2 : Value} {b : Bool} (h : PlAt g x q mc md rv cv Y lo L P w) (hr : Coup.row w' q (plV g x P.G.size P.fr mc md rv2 b) 54) (ho : Only q w w') : PlAt g x q mc md rv2 cv Y lo L { P with dead := b } w' :=
  ⟨h.lg.only ho (.inr (by simp)), hr, h.mch.only ho (Ne.symm h.qm), h.mdi.only ho (Ne.symm h.qd), h.own.kpd (Kp.of_only ho) (fun b hb e => by rw [List.mem_singleton.1 hb] at e; exact (h.cq q (by simp [e])).1 rfl), h.qm, h.qd, h.md', h.cq, h.ql, h.mcl, h.mdl⟩
theorem setCh [hY : Thing Y] {c : PgM} (h : PlAt g x q mc md rv cv Y lo L P w) (hr : MapAt Tryz.prog 3 w' mc P.n (mapV c)) (ho : Only mc w w') : PlAt g x q mc md rv cv Y lo L { P with ch := c } w' :=
  ⟨h.lg.only ho (.inr (by simp)), h.row.only ho h.qm, hr, h.mdi.only ho (Ne.symm h.md'), h.own.kpd (Kp.of_only ho) (fun b hb e => by rw [List.mem_singleton.1 hb] at e; exact (h.cq mc (by simp [e])).2.1 rfl), h.qm, h.qd, h.md', h.cq, h.ql, h.mcl, h.mdl⟩
theorem setDi [hY : Thing Y] {c : PgM} (h : PlAt g x q mc md rv cv Y lo L P w) (hr : MapAt Tryz.prog 3 w' md P.n (mapV c)) (ho : Only md w w') : PlAt g x q mc md rv cv Y lo L { P with di := c } w' :=
  ⟨h.lg.only ho (.inr (by simp)), h.row.only ho h.qd, h.mch.only ho h.md', hr, h.own.kpd (Kp.of_only ho) (fun b hb e => by rw [List.mem_singleton.1 hb] at e; exact (h.cq md (by simp [e])).2.2.1 rfl), h.qm, h.qd, h.md', h.cq, h.ql, h.mcl, h.mdl⟩
theorem setOwn [hY : Thing Y] {R : Rec} (h : PlAt g x q mc md rv cv Y lo L P w) (hv : ownsAt w' 0 73 513 cv2 R.length (chsV R)) (k : Kp cv.ownBlock.toList w w') (hf : ∀ b, cv2.ownBlock = some b → cv.ownBlock = some b ∨ w.heap.size ≤ b) : PlAt g x q mc md rv cv2 Y lo L { P with cl := R } w' := by
  have hlt := h.lts
  have hx := h.xne
  have hloz := h.lo'
  have hLl := h.ltL
  have hG := h.lg.kpd k fun b hb => .inr (by simp [hb])
  have hS : ∀ b ∈ cv2.ownBlock.toList, b ∈ cv.ownBlock.toList ∨ w.heap.size ≤ b := fun b hb => (hf b (Option.mem_toList.1 hb)).imp (fun e => Option.mem_toList.2 e) id
  have hc2 : ∀ b ∈ cv2.ownBlock.toList, b ≠ q ∧ b ≠ mc ∧ b ≠ md ∧ lo ≤ b ∧ b ∉ L := fun b hb => (hS b hb).elim (h.cq b) fun hs => ⟨by omega, by omega, by omega, by omega, fun hm => by have := hLl b hm; omega⟩
  obtain ⟨⟨⟨B, C, h1, h2, h3, h4⟩, h5, h6⟩, h7, h8, h9⟩ := h.lg
  have hDl := fun b hb => (inferInstance : Thing (DZ g P.D)).lt h1 b hb
  have hYl := fun b hb => hY.lt h2 b hb
  refine ⟨⟨⟨⟨B, C, ?_, ?_, fun b hb => ⟨(h3 b hb).1, (h3 b hb).2.1, fun hm => ?_⟩, fun b hb => ⟨(h4 b hb).1, fun hm => ?_⟩⟩, Nat.le_trans h5 k.size, fun b hm => ?_⟩, hG.rowx, h8, fun hm => ?_⟩, h.row.kpd k fun hm => (h.cq q hm).1 rfl, h.mch.kpd k fun hm => (h.cq mc hm).2.1 rfl, h.mdi.kpd k fun hm => (h.cq md hm).2.2.1 rfl, hv, h.qm, h.qd, h.md', hc2, h.ql, h.mcl, h.mdl⟩
  · exact (inferInstance : Thing (DZ g P.D)).kpd h1 k fun b hb hm => (h3 b hb).2.2 (by simp [hm])
  · exact hY.kpd h2 k fun b hb hm => (h4 b hb).2 (by simp [hm])
  · have h3b := (h3 b hb).2.2
    simp only [List.mem_cons, List.mem_append, not_or] at h3b hm
    rcases hm with hm | hm | hm | hm | hm | hm
    · exact h3b.1 hm
    · exact (hS b hm).elim h3b.2.1 fun hs => by have := hDl b hb; omega
    · exact h3b.2.2.1 hm
    · exact h3b.2.2.2.1 hm
    · exact h3b.2.2.2.2.1 hm
    · exact h3b.2.2.2.2.2 hm
  · have h4b := (h4 b hb).2
    simp only [List.mem_cons, List.mem_append, not_or] at h4b hm
    rcases hm with hm | hm | hm | hm | hm | hm
    · exact h4b.1 hm
    · exact (hS b hm).elim h4b.2.1 fun hs => by have := hYl b hb; omega
    · exact h4b.2.2.1 hm
    · exact h4b.2.2.2.1 hm
    · exact h4b.2.2.2.2.1 hm
    · exact h4b.2.2.2.2.2 hm
  · simp only [List.mem_cons, List.mem_append] at hm
    rcases hm with hm | hm | hm | hm | hm | hm
    · exact Nat.lt_of_lt_of_le (h6 b (by simp [hm])) k.size
    · exact (hv.lt b (Option.mem_toList.1 hm)).2
    · exact Nat.lt_of_lt_of_le (h6 b (by simp [hm])) k.size
    · exact Nat.lt_of_lt_of_le (h6 b (by simp [hm])) k.size
    · exact Nat.lt_of_lt_of_le (h6 b (by simp [hm])) k.size
    · exact Nat.lt_of_lt_of_le (h6 b (by simp [hm])) k.size
  · simp only [List.mem_append, List.mem_cons] at hm
    rcases hm with hm | hm | hm | hm | hm
    · refine (hS x hm).elim hx.2.2.2.1 fun hs => ?_
      have := h7.lt; omega
    · exact hx.1 hm
    · exact hx.2.1 hm
    · exact hx.2.2.1 hm
    · exact hx.2.2.2.2 hm
theorem setLg {D : Dk} {G : Lg} (h : PlAt g x q mc md rv cv Y lo L P w) (hG : LgAt g x Y lo (cv.ownBlock.toList ++ q :: mc :: md :: L) D G w') (k : LoL lo (cv.ownBlock.toList ++ q :: mc :: md :: L) w w') (hs : G.size = P.G.size) (hD : D.V.length = P.D.V.length) : PlAt g x q mc md rv cv Y lo L { P with D := D, G := G } w' := by
  have hn : ({ P with D := D, G := G } : Pl).n = P.n := by unfold Pl.n; dsimp only; rw [hs, hD]
  refine ⟨hG, ?_, ?_, ?_, h.own.kpd k.kp fun b hb e => notLL (.inr (by simp [e])) hb, h.qm, h.qd, h.md', h.cq, h.ql, h.mcl, h.mdl⟩
  · dsimp only; rw [hs]; exact h.row.kpd k.kp (notLL (.inr (by simp)))
  · rw [hn]; exact h.mch.kpd k.kp (notLL (.inr (by simp)))
  · rw [hn]; exact h.mdi.kpd k.kp (notLL (.inr (by simp)))
theorem outLo (h : PlAt g x q mc md rv cv Y lo L P w) (k : LoL lo (cv.ownBlock.toList ++ q :: mc :: md :: L) w w') : LoL lo L w w' := k.weak (Nat.le_refl _) fun b hb => by simp [hb]
theorem outC (h : PlAt g x q mc md rv cv Y lo L P w) (k : Kp cv.ownBlock.toList w w') : LoL lo L w w' := LoL.of_kp k fun b hb => .inl (h.cq b hb).2.2.2
end PlAt
end
end Go.Proofs.YtielfpkjoidomaaGreat
namespace Go.Proofs.YtielfpkjoidomaaGreat
open Go Go.RowKit Coup
set_option maxRecDepth 20000 in
theorem deleteN (b : Nat) (n : Int) (w : World) (hb : row w b [.int .i64 n] 3) :
    Calls Tryz.prog 72 [.slice none 0 0, .func (.func 73) #[] #[.pointer (some ⟨b, 0, none⟩)]].toArray w (Ret fun v w' => v = .slice none 0 0 ∧ Below w.heap.size w w') := by
  have hB := Below.refl w.heap.size w
  have hs0 : SlAt w none 0 513 (chsV []) := (ownsAt_nil w 0 73 513).sl
  have hix := fun w' (h : SlAt w' none 0 513 (chsV [])) (hb : row w' b [.int .i64 n] 3) => indexB [] (fun _ h => nomatch h) none 0 0 rfl b n w' h hb
  rw [if_neg (by simp)] at hix
  refine calls_W (fn := Tryz.f72) (rs := [.tmp 4]) (n := 42) Tryz.func72 rfl rfl Tryz.ntmps72 (by kernel_rfl) rfl ?_
  refine W_seq ?_
  refine W_region ?_
  refine WR_val rfl (rn_assign) ?_
  refine WR_nil ?_
  refine thenN ?_
  refine W_seq ?_
  refine W_region ?_
  refine WR_val rfl (rn_move) ?_
  refine WR_val rfl (rn_move) ?_
  refine WR_ent rfl (rn_call (by kernel_rfl) rfl) (hix w hs0 hb) ?_
  rintro _ w10 ⟨rfl, hb10⟩
  replace hb := hb.new hb10
  replace hB := hB.acc hb10
  refine WR_val rfl (rn_assign) ?_
  refine WR_nil ?_
  refine thenN ?_
  refine W_seq ?_
  refine W_seq ?_
  refine W_region ?_
  refine WR_val rfl (rn_move) ?_
  refine WR_val rfl (rn_eql rfl rfl) ?_
  refine WR_nil ?_
  refine thenN ?_
  refine W_tp rfl (rfl) ?_
  refine W_seq ?_
  refine W_region ?_
  refine WR_val rfl (rn_move) ?_
  refine WR_val rfl (rn_assign) ?_
  refine WR_nil ?_
  refine thenN ?_
  refine W_ret ?_
  refine thenR ?_
  refine ret_ret [_] ⟨rfl, trivial⟩ ?_
  exact ⟨rfl, hB⟩
section
variable {Y : World → List Nat → Prop} [Thing Y] {g x q mc md lo : Nat} {rv cv : Value} {L : List Nat} {P : Pl} {w : World}
set_option maxRecDepth 20000 in
theorem pagesP (h : PlAt g x q mc md rv cv Y lo L P w) (hsz : P.G.size ≤ 4000) : Calls Tryz.prog 24 [.pointer (some ⟨q, 0, none⟩)].toArray w (Ret fun v w' => v = .int .i64 (P.n : Int) ∧ Below w.heap.size w w') := by
  have hB := Below.refl w.heap.size w
  have hC := fun w' (h' : PlAt g x q mc md rv cv Y lo L P w') => countP h'.lg.fst (P.G.size : Int) ⟨by omega, by omega⟩
  have hq := h.row
  unfold plV at hq
  unfold Pl.n
  refine calls_W (fn := Tryz.f24) (rs := [.tmp 2]) (n := 21) Tryz.func24 rfl rfl Tryz.ntmps24 (by kernel_rfl) rfl ?_
  refine W_seq ?_
  refine W_region ?_
  refine WR_val rfl (rn_assign) ?_
  refine WR_nil ?_
  refine thenN ?_
  refine W_seq ?_
  refine W_seq ?_
  refine W_region ?_
  refine WR_val rfl (rn_move) ?_
  refine WR_val rfl (rn_eqlP1 (by kernel_rfl) rfl rfl) ?_
  refine WR_val rfl (rn_move) ?_
  refine WR_fb 5 rfl (rfl) ?_
  refine WR_yes rfl ?_
  refine WR_val rfl (rn_move) ?_
  refine WR_yes rfl ?_
  refine WR_val rfl (rn_nilCheckP rfl) ?_
  refine WR_yes rfl ?_
  refine WR_val rfl (rn_fieldAddr (off := 0) (by kernel_rfl) rfl) ?_
  refine WR_yes rfl ?_
  refine WR_val rfl (rn_load rfl (Ld.row1 hq (by kernel_rfl) rfl)) ?_
  refine WR_yes rfl ?_
  refine WR_val rfl (rn_eqlP1 (by kernel_rfl) rfl rfl) ?_
  refine WR_val rfl (rn_pick_f rfl) ?_
  refine WR_nil ?_
  refine thenN ?_
  refine W_fb rfl (rfl) ?_
  refine W_skip ?_
  refine thenN ?_
  refine W_seq ?_
  refine W_draw' [] (by kernel_rfl) ?_
  intro w901 hb901 hS901
  replace h := h.new hb901
  replace hq := hq.new hb901
  replace hB := hB.acc hb901
  have h_d901 := h
  have hq_d901 := hq
  have hB_d901 := hB
  refine WA_take 0 (by kernel_rfl) rfl (fun _ _ => rn_move) ?_
  refine WA_take 1 (by kernel_rfl) rfl (fun _ _ => rn_nilCheckP rfl) ?_
  refine WA_take 2 (by kernel_rfl) rfl (fun _ _ => rn_fieldAddr (off := 0) (by kernel_rfl) rfl) ?_
  refine WA_take 3 (by kernel_rfl) rfl (fun w' hS' => rn_load rfl (Ld.row1 (hq_d901.kpd hS' (by first | (simp; done) | (simp; omega) | (simp [*]; done) | exact notLL (Or.inl (by omega)) | exact notLL (Or.inr (by simp)) | exact fun g hm => Nat.le_trans (by omega) (inLL hm).1 | (intro b o e; cases e; exact notLL (Or.inl (by omega))) | (intro b hm; have := (hu.lt b (Option.mem_toList.1 hm)).1; omega) | (intro b o e; cases e; intro hm; have := (hu.lt _ (Option.mem_toList.1 hm)).1; omega))) (by kernel_rfl) rfl)) ?_
  refine WA_take 4 (by kernel_rfl) rfl (fun _ _ => rn_move) ?_
  refine WA_take 5 (by kernel_rfl) rfl (fun _ _ => rn_nilCheckP rfl) ?_
  refine WA_take 6 (by kernel_rfl) rfl (fun _ _ => rn_fieldAddr (off := 2) (by kernel_rfl) rfl) ?_
  refine WA_take 7 (by kernel_rfl) rfl (fun w' hS' => rn_load rfl (Ld.row1 (hq_d901.kpd hS' (by first | (simp; done) | (simp; omega) | (simp [*]; done) | exact notLL (Or.inl (by omega)) | exact notLL (Or.inr (by simp)) | exact fun g hm => Nat.le_trans (by omega) (inLL hm).1 | (intro b o e; cases e; exact notLL (Or.inl (by omega))) | (intro b hm; have := (hu.lt b (Option.mem_toList.1 hm)).1; omega) | (intro b o e; cases e; intro hm; have := (hu.lt _ (Option.mem_toList.1 hm)).1; omega))) (by kernel_rfl) rfl)) ?_
  refine WA_call 8 (by kernel_rfl) rfl (fun _ => rn_call (by kernel_rfl) rfl) (fun w' hS' => hC w' (h_d901.kpd hS' (by first | (simp; done) | (simp; omega) | (simp [*]; done) | exact notLL (Or.inl (by omega)) | exact notLL (Or.inr (by simp)) | exact fun g hm => Nat.le_trans (by omega) (inLL hm).1 | (intro b o e; cases e; exact notLL (Or.inl (by omega))) | (intro b hm; have := (hu.lt b (Option.mem_toList.1 hm)).1; omega) | (intro b o e; cases e; intro hm; have := (hu.lt _ (Option.mem_toList.1 hm)).1; omega)))) ?_
  refine WA_take 9 (by kernel_rfl) rfl (fun _ _ => rn_assign) ?_
  refine WA_done (by kernel_rfl) ?_
  refine thenN ?_
  refine W_ret ?_
  refine ret_ret [_] ⟨rfl, trivial⟩ ?_
  exact ⟨rfl, hB⟩
def readyE (P : Pl) (n : Int) : Int := if P.dead then 10 else if 0 ≤ n ∧ n < (P.n : Int) then 0 else 2
set_option maxRecDepth 20000 in
theorem readyP (h : PlAt g x q mc md rv cv Y lo L P w) (hsz : P.G.size ≤ 4000) (n : Int) : Calls Tryz.prog 34 [.pointer (some ⟨q, 0, none⟩), .int .i64 n].toArray w (Ret fun v w' => v = .int .i64 (readyE P n) ∧ Below w.heap.size w w') := by
  have hB := Below.refl w.heap.size w
  have hC := fun w' (h' : PlAt g x q mc md rv cv Y lo L P w') => pagesP h' hsz
  have hq := h.row
  obtain ⟨de, hde⟩ : ∃ de, P.dead = de := ⟨_, rfl⟩
  obtain ⟨N, hN⟩ : ∃ N, P.n = N := ⟨_, rfl⟩
  unfold plV at hq
  unfold readyE
  rw [hde] at hq ⊢
  rw [hN] at hC ⊢
  refine calls_W (fn := Tryz.f34) (rs := [.tmp 4]) (n := 29) Tryz.func34 rfl rfl Tryz.ntmps34 (by kernel_rfl) rfl ?_
  refine W_seq ?_
  refine W_region ?_
  refine WR_val rfl (rn_assign) ?_
  refine WR_nil ?_
  refine thenN ?_
  refine W_seq ?_
  refine W_block ?_
  refine W_seq ?_
  refine W_region ?_
  refine WR_val rfl (rn_move) ?_
  refine WR_val rfl (rn_eqlP1 (by kernel_rfl) rfl rfl) ?_
  refine WR_val rfl (rn_move) ?_
  refine WR_fb 8 rfl (rfl) ?_
  refine WR_yes rfl ?_
  refine WR_val rfl (rn_move) ?_
  refine WR_yes rfl ?_
  refine WR_val rfl (rn_nilCheckP rfl) ?_
  refine WR_yes rfl ?_
  refine WR_val rfl (rn_fieldAddr (off := 0) (by kernel_rfl) rfl) ?_
  refine WR_yes rfl ?_
  refine WR_val rfl (rn_load rfl (Ld.row1 hq (by kernel_rfl) rfl)) ?_
  refine WR_yes rfl ?_
  refine WR_val rfl (rn_eqlP1 (by kernel_rfl) rfl rfl) ?_
  refine WR_val rfl (rn_pick_f rfl) ?_
  refine WR_val rfl (rn_assign) ?_
  refine WR_nil ?_
  refine thenN ?_
  refine W_fb rfl (rfl) ?_
  refine W_seq ?_
  refine W_region ?_
  refine WR_val rfl (rn_move) ?_
  refine WR_val rfl (rn_nilCheckP rfl) ?_
  refine WR_val rfl (rn_fieldAddr (off := 7) (by kernel_rfl) rfl) ?_
  refine WR_val rfl (rn_load rfl (Ld.row1 hq (by kernel_rfl) rfl)) ?_
  refine WR_val rfl (rn_assign) ?_
  refine WR_nil ?_
  refine thenN ?_
  refine W_if rfl (fun hd => ?_) (fun hd => ?_)
  ·
    refine W_seq ?_
    refine W_region ?_
    refine WR_val rfl (rn_assign) ?_
    refine WR_nil ?_
    refine thenN ?_
    refine W_ret ?_
    refine blockR ?_
    refine thenR ?_
    refine ret_ret [_] ⟨rfl, trivial⟩ ?_
    subst hd
    exact ⟨rfl, hB⟩
  ·
    have hf : de = false := by cases de with | false => rfl | true => cases hd
    subst hf
    refine W_seq ?_
    refine W_region ?_
    refine WR_val rfl (rn_move) ?_
    refine WR_val rfl (rn_lss rfl rfl) ?_
    refine WR_val rfl (rn_move) ?_
    refine WR_part 23 rfl (fun hlt => ?_) (fun hlt => ?_)
    ·
      refine WR_no rfl rfl ?_
      refine WR_no rfl rfl ?_
      refine WR_no rfl rfl ?_
      refine WR_no rfl rfl ?_
      refine WR_val rfl (rn_pick_t rfl) ?_
      refine WR_val rfl (rn_assign) ?_
      refine WR_nil ?_
      refine thenN ?_
      refine W_tb rfl (rfl) ?_
      refine W_seq ?_
      refine W_region ?_
      refine WR_val rfl (rn_assign) ?_
      refine WR_nil ?_
      refine thenN ?_
      refine W_ret ?_
      refine blockR ?_
      refine thenR ?_
      refine ret_ret [_] ⟨rfl, trivial⟩ ?_
      exact ⟨by rw [if_neg (by simp), if_neg (by omega)]; rfl, hB⟩
    ·
      refine WR_yes rfl ?_
      refine WR_val rfl (rn_move) ?_
      refine WR_yes rfl ?_
      refine WR_val rfl (rn_move) ?_
      refine WR_yes rfl ?_
      refine WR_ent rfl (rn_call (by kernel_rfl) rfl) (hC w h) ?_
      rintro _ w26 ⟨rfl, hb26⟩
      replace h := h.new hb26
      replace hq := hq.new hb26
      replace hB := hB.acc hb26
      refine WR_yes rfl ?_
      refine WR_val rfl (rn_geq rfl rfl) ?_
      refine WR_val rfl (rn_pick_f rfl) ?_
      refine WR_val rfl (rn_assign) ?_
      refine WR_nil ?_
      refine thenN ?_
      refine W_ifp rfl (fun hge => ?_) (fun hge => ?_)
      ·
        refine W_seq ?_
        refine W_region ?_
        refine WR_val rfl (rn_assign) ?_
        refine WR_nil ?_
        refine thenN ?_
        refine W_ret ?_
        refine blockR ?_
        refine thenR ?_
        refine ret_ret [_] ⟨rfl, trivial⟩ ?_
        exact ⟨by rw [if_neg (by simp), if_neg (by omega)]; rfl, hB⟩
      ·
        refine W_skip ?_
        refine blockN ?_
        refine thenN ?_
        refine W_seq ?_
        refine W_region ?_
        refine WR_val rfl (rn_assign) ?_
        refine WR_nil ?_
        refine thenN ?_
        refine W_ret ?_
        refine ret_ret [_] ⟨rfl, trivial⟩ ?_
        exact ⟨by rw [if_neg (by simp), if_pos (by omega)]; rfl, hB⟩
set_option maxRecDepth 20000 in
theorem keepP (h : PlAt g x q mc md rv cv Y lo L P w) (e : Int) : Calls Tryz.prog 40 [.pointer (some ⟨q, 0, none⟩), .int .i64 e].toArray w (Ret fun v w' => v = .int .i64 e ∧ PlAt g x q mc md rv cv Y lo L { P with dead := P.dead || decide (e = 10) } w' ∧ LoL lo L w w') := by
  have hLL := LoL.refl lo L w
  have hq := h.row
  obtain ⟨hql, hqL⟩ := h.ql
  obtain ⟨D, G, fr, ch, di, cl, de⟩ := P
  unfold plV at hq
  dsimp only at hq ⊢
  refine calls_W (fn := Tryz.f40) (rs := [.tmp 4]) (n := 17) Tryz.func40 rfl rfl Tryz.ntmps40 (by kernel_rfl) rfl ?_
  refine W_seq ?_
  refine W_region ?_
  refine WR_val rfl (rn_assign) ?_
  refine WR_nil ?_
  refine thenN ?_
  refine W_seq ?_
  refine W_region ?_
  refine WR_val rfl (rn_move) ?_
  refine WR_val rfl (rn_move) ?_
  refine WR_val rfl (rn_nilCheckP rfl) ?_
  refine WR_val rfl (rn_fieldAddr (off := 7) (by kernel_rfl) rfl) ?_
  refine WR_val rfl (rn_load rfl (Ld.row1 hq (by kernel_rfl) rfl)) ?_
  refine WR_val rfl (rn_move) ?_
  refine WR_partb 10 rfl (fun hd => ?_) (fun hd => ?_)
  ·
    refine WR_no rfl rfl ?_
    refine WR_no rfl rfl ?_
    subst hd
    refine WR_val rfl (rn_pick_t rfl) ?_
    refine WR_val rfl (rn_nilCheckP rfl) ?_
    refine WR_val rfl (rn_fieldAddr (off := 7) (by kernel_rfl) rfl) ?_
    refine WR_sk rfl (sk_store1 rfl rfl rfl rfl hq (by kernel_rfl) (by first | (simp only [List.length_replicate]; omega) | (simp only [iv_length]; omega) | (simp only [bv_length, List.length_set]; omega) | simp) (fun w901 hq ho901 => ?_))
    replace hLL := hLL.only ho901 (by first | omega | (right; exact ⟨by omega, by assumption⟩))
    have hP := h.setRow hq ho901
    refine WR_nil ?_
    refine thenN ?_
    refine W_seq ?_
    refine W_region ?_
    refine WR_val rfl (rn_move) ?_
    refine WR_val rfl (rn_assign) ?_
    refine WR_nil ?_
    refine thenN ?_
    refine W_ret ?_
    refine ret_ret [_] ⟨rfl, trivial⟩ ?_
    exact ⟨rfl, hP, hLL⟩
  ·
    have hf : de = false := by cases de with | false => rfl | true => cases hd
    subst hf
    refine WR_yes rfl ?_
    refine WR_val rfl (rn_move) ?_
    refine WR_yes rfl ?_
    refine WR_val rfl (rn_eql rfl rfl) ?_
    refine WR_val rfl (rn_pick_f rfl) ?_
    refine WR_val rfl (rn_nilCheckP rfl) ?_
    refine WR_val rfl (rn_fieldAddr (off := 7) (by kernel_rfl) rfl) ?_
    refine WR_sk rfl (sk_store1 rfl rfl rfl rfl hq (by kernel_rfl) (by first | (simp only [List.length_replicate]; omega) | (simp only [iv_length]; omega) | (simp only [bv_length, List.length_set]; omega) | simp) (fun w902 hq ho902 => ?_))
    replace hLL := hLL.only ho902 (by first | omega | (right; exact ⟨by omega, by assumption⟩))
    have hP := h.setRow hq ho902
    refine WR_nil ?_
    refine thenN ?_
    refine W_seq ?_
    refine W_region ?_
    refine WR_val rfl (rn_move) ?_
    refine WR_val rfl (rn_assign) ?_
    refine WR_nil ?_
    refine thenN ?_
    refine W_ret ?_
    refine ret_ret [_] ⟨rfl, trivial⟩ ?_
    exact ⟨rfl, hP, hLL⟩
set_option maxRecDepth 20000 in
theorem forgetN (h : PlAt g x q mc md cv cv Y lo L P w) (hcv : cv = .slice none 0 0) (h0 : P.cl.length = 0) (n : Int) : Calls Tryz.prog 42 [.pointer (some ⟨q, 0, none⟩), .int .i64 n].toArray w (Ret fun v w' => v = .tuple #[] ∧ (∃ cv', PlAt g x q mc md cv' cv' Y lo L { P with cl := without P.cl n } w') ∧ LoL lo L w w') := by
  have hLL := LoL.refl lo L w
  have hq := h.row
  obtain ⟨hql, hqL⟩ := h.ql
  unfold plV at hq
  subst hcv
  have hcl : P.cl = [] := List.eq_nil_of_length_eq_zero h0
  have hwo : without P.cl n = P.cl := by rw [hcl]; rfl
  rw [hwo]
  refine calls_W (fn := Tryz.f42) (rs := []) (n := 13) Tryz.func42 rfl rfl Tryz.ntmps42 (by kernel_rfl) rfl ?_
  refine W_seq ?_
  refine W_region ?_
  refine WR_mk rfl (mk_box ([_]) rfl (fun g3 w3 hg3 hr3 hb3 => ?_))
  have lt_q_g3 : q < g3 := Nat.lt_of_lt_of_le hq.lt hg3
  replace h := h.newc hb3 hg3 hr3.lt
  replace hLL := hLL.new hb3
  replace hq := hq.new hb3
  refine WR_nil ?_
  refine thenN ?_
  refine W_region ?_
  refine WR_val rfl (rn_move) ?_
  refine WR_val rfl (rn_move) ?_
  refine WR_val rfl (rn_nilCheckP rfl) ?_
  refine WR_val rfl (rn_fieldAddr (off := 6) (by kernel_rfl) rfl) ?_
  refine WR_val rfl (rn_load rfl (Ld.row1 hq (by kernel_rfl) rfl)) ?_
  refine WR_val rfl (rn_makeFunc) ?_
  refine WR_ent rfl (rn_call (by kernel_rfl) rfl) (deleteN _ n w3 hr3) ?_
  rintro _ w10 ⟨rfl, hb10⟩
  replace h := h.new hb10
  replace hLL := hLL.new hb10
  replace hq := hq.new hb10
  replace hr3 := hr3.new hb10
  refine WR_val rfl (rn_nilCheckP rfl) ?_
  refine WR_val rfl (rn_fieldAddr (off := 6) (by kernel_rfl) rfl) ?_
  refine WR_sk rfl (sk_store1 rfl rfl rfl rfl hq (by kernel_rfl) (by first | (simp only [List.length_replicate]; omega) | (simp only [iv_length]; omega) | (simp only [bv_length, List.length_set]; omega) | simp) (fun w901 hq ho901 => ?_))
  replace hLL := hLL.only ho901 (by first | omega | (right; exact ⟨by omega, by assumption⟩))
  replace hr3 := hr3.only ho901 (Nat.ne_of_gt lt_q_g3)
  have hP := h.setRow hq ho901
  refine WR_nil ?_
  refine ret_normal [] trivial ?_
  exact ⟨rfl, ⟨_, hP.weak (fun b hb => List.mem_cons_of_mem _ hb)⟩, hLL⟩
set_option maxRecDepth 20000 in
theorem forgetO {gc o c : Nat} (h : PlAt g x q mc md cv cv Y lo L P w) (hcv : cv = .slice (some ⟨gc, o, none⟩) P.cl.length c) (hR : chsOk P.cl) (n : Int) : Calls Tryz.prog 42 [.pointer (some ⟨q, 0, none⟩), .int .i64 n].toArray w (Ret fun v w' => v = .tuple #[] ∧ (∃ cv', PlAt g x q mc md cv' cv' Y lo L { P with cl := without P.cl n } w') ∧ LoL lo L w w') := by
  have hLL := LoL.refl lo L w
  have hq := h.row
  obtain ⟨hql, hqL⟩ := h.ql
  unfold plV at hq
  subst hcv
  have hgl : gc < w.heap.size := OwnG.lt h.own
  have hcq := h.cq gc (List.mem_cons_self ..)
  have hgL : ∀ b ∈ [gc], (lo ≤ b ∧ b ∉ L) ∨ w.heap.size ≤ b := fun b hb => .inl (by rw [List.mem_singleton.1 hb]; exact ⟨hcq.2.2.2.1, hcq.2.2.2.2⟩)
  have hqg : q ≠ gc := Ne.symm hcq.1
  refine calls_W (fn := Tryz.f42) (rs := []) (n := 13) Tryz.func42 rfl rfl Tryz.ntmps42 (by kernel_rfl) rfl ?_
  refine W_seq ?_
  refine W_region ?_
  refine WR_mk rfl (mk_box ([_]) rfl (fun g3 w3 hg3 hr3 hb3 => ?_))
  have lt_q_g3 : q < g3 := Nat.lt_of_lt_of_le hq.lt hg3
  replace h := h.newc hb3 hg3 hr3.lt
  replace hLL := hLL.new hb3
  replace hq := hq.new hb3
  refine WR_nil ?_
  refine thenN ?_
  refine W_region ?_
  refine WR_val rfl (rn_move) ?_
  refine WR_val rfl (rn_move) ?_
  refine WR_val rfl (rn_nilCheckP rfl) ?_
  refine WR_val rfl (rn_fieldAddr (off := 6) (by kernel_rfl) rfl) ?_
  refine WR_val rfl (rn_load rfl (Ld.row1 hq (by kernel_rfl) rfl)) ?_
  refine WR_val rfl (rn_makeFunc) ?_
  refine WR_ent rfl (rn_call (by kernel_rfl) rfl) (deleteB P.cl hR gc o P.cl.length c 0 rfl _ n w3 h.own hr3 (by omega)) ?_
  rintro _ w10 ⟨rfl, hown, hb10⟩
  replace h := h.setOwn hown hb10.k (fun b e => Or.inl e)
  replace hLL := hLL.kpd hb10.k hgL
  replace hq := hq.kpd hb10.k (by first | (simp; done) | (simp; omega))
  replace hr3 := hr3.kpd hb10.k (by first | (simp; done) | (simp; omega))
  refine WR_val rfl (rn_nilCheckP rfl) ?_
  refine WR_val rfl (rn_fieldAddr (off := 6) (by kernel_rfl) rfl) ?_
  refine WR_sk rfl (sk_store1 rfl rfl rfl rfl hq (by kernel_rfl) (by first | (simp only [List.length_replicate]; omega) | (simp only [iv_length]; omega) | (simp only [bv_length, List.length_set]; omega) | simp) (fun w901 hq ho901 => ?_))
  replace hr3 := hr3.only ho901 (Nat.ne_of_gt lt_q_g3)
  replace hLL := hLL.only ho901 (by first | omega | (right; exact ⟨by omega, by assumption⟩))
  have hP := h.setRow hq ho901
  refine WR_nil ?_
  refine ret_normal [] trivial ?_
  exact ⟨rfl, ⟨_, hP.weak (fun b hb => List.mem_cons_of_mem _ hb)⟩, hLL⟩
theorem forgetP (h : PlAt g x q mc md cv cv Y lo L P w) (hR : chsOk P.cl) (n : Int) : Calls Tryz.prog 42 [.pointer (some ⟨q, 0, none⟩), .int .i64 n].toArray w (Ret fun v w' => v = .tuple #[] ∧ (∃ cv', PlAt g x q mc md cv' cv' Y lo L { P with cl := without P.cl n } w') ∧ LoL lo L w w') := by
  rcases h.own.2 with ⟨hcv, h0⟩ | ⟨gc, o, c, cur, hcv, _⟩
  · exact forgetN h hcv h0 n
  · exact forgetO h hcv hR n
end
end Go.Proofs.YtielfpkjoidomaaGreat
namespace Coup
open Go Go.RowKit Go.Maps
open Go.WideElems (Fit rd rg pl rd_val elemAt)
section
variable {P : Program} {ρ : Env} {w : World} {d : Option Nat} {ty : TypeId} {pos : String} {af : Array Edge} {gd : Option (Nat × Bool)} {K : Value → World → Prop}
theorem rn_lenMap {t k e : TypeId} {x : Operand} {m N : Nat} {f : Nat → Option Value} (ht : P.underlying t = some (.map k e)) (hm : MapAt P k w m N f) (hx : ev ρ x = .map (some m)) :
    (execOp (ev ρ) ⟨d, .call ⟨.builtin .len, #[x], #[t]⟩, ty, pos, af, gd⟩).run P w = .ok (.value (.int .i64 ((kvL f 0 N).length : Int))) w := by
  obtain ⟨es, clock, hb, F, hs, hD⟩ := hm
  have h1 := Go.MapKept.run_getObj_map (P := P) hb
  have he : (kvL f 0 N).length = es.size := by
    have h2 : kvL f 0 N = (es.toList.map (rg P k RH)).foldr DataW.insert [] := by injection hD
    rw [h2, length_read]
  rw [he]
  simp [execOp, resolve, invoke, builtin, Builtin.len_, hx, run_underlying ht, h1, goInt, Result.andThen]
theorem rn_lookupC {t k e : TypeId} {x y : Operand} {m N : Nat} {f : Nat → Option Value} {a : Int} (z : Value) (o : Option Value) (ht : P.underlying t = some (.map k e)) (hk : P.underlying k = some (.int .i64)) (hz : ∀ w, (zeroValue e).run P w = .ok z w)
    (hm : MapAt P k w m N f) (hx : ev ρ x = .map (some m)) (hy : ev ρ y = .int .i64 a) (i : Nat) (ha : a = (i : Int)) (hi : i < N) (hN : N ≤ 1000000) (hf : f i = o) :
    (execOp (ev ρ) ⟨d, .lookup t x y true, ty, pos, af, gd⟩).run P w = .ok (.value (.tuple #[o.getD z, .bool o.isSome])) w := by
  subst ha
  subst hf
  obtain ⟨es, clock, hb, F, hs, hD⟩ := hm
  have hkey := keyOf_int_mk hk (i64_wf (i := i) (by omega))
  have hat : ∀ zd : DataW Value, DataW.atKey (.map (kvL f 0 N)) (.int .i64 (i : Int)) zd = ((f i).map DataW.held).getD zd := fun zd => by
    unfold DataW.atKey
    simp only [kvL_find N 0 (Nat.zero_le _) (by omega : i < 0 + N)]
    cases f i <;> rfl
  rw [hD] at hat
  rcases Maps.fit_look true (int_keyed hk) ht (hz w) hb F hkey with ⟨hrun, _, hat2⟩ | ⟨e0, y, _, _, hrun, hRv, hat2, _⟩
  · have hn : f i = none := by
      cases hfi : f i with
      | none => rfl
      | some v =>
        have h1 := (hat (.held (.bool true))).symm.trans (hat2 (.held (.bool true)))
        have h2 := (hat (.held (.bool false))).symm.trans (hat2 (.held (.bool false)))
        rw [hfi] at h1 h2
        have h3 : DataW.held (H := Value) (.bool true) = .held (.bool false) := h1.symm.trans h2
        injection h3 with h3
        injection h3 with h3
        cases h3
    rw [hn]
    simp [execOp, hx, hy, hrun, Result.andThen]
  · have hn : f i = some e0.val := by
      have hy1 : y = (.held e0.val, []) := by
        have h1 : some (DataW.held e0.val, ([] : List MemPlace)) = some y := hRv
        injection h1 with h1
        exact h1.symm
      have h1 := fun zd => (hat zd).symm.trans (hat2 zd)
      rw [hy1] at h1
      cases hfi : f i with
      | none =>
        rw [hfi] at h1
        have h2 : DataW.held (H := Value) (.bool true) = .held (.bool false) := (h1 (.held (.bool true))).trans (h1 (.held (.bool false))).symm
        injection h2 with h2
        injection h2 with h2
        cases h2
      | some v =>
        rw [hfi] at h1
        have h2 : DataW.held (H := Value) v = .held e0.val := h1 (.held v)
        injection h2 with h2
        rw [h2]
    rw [hn]
    simp [execOp, hx, hy, hrun, Result.andThen]
theorem rn_built6 {t i0 i1 i2 i3 i4 i5 : Nat} {x0 x1 x2 x3 x4 x5 : Operand} (v0 v1 v2 v3 v4 v5 : Value) (cs : List Value) (h0 : ev ρ x0 = v0) (h1 : ev ρ x1 = v1) (h2 : ev ρ x2 = v2) (h3 : ev ρ x3 = v3) (h4 : ev ρ x4 = v4) (h5 : ev ρ x5 = v5)
    (hb : P.built t [(i0, v0), (i1, v1), (i2, v2), (i3, v3), (i4, v4), (i5, v5)] = some cs.toArray) :
    (execOp (ev ρ) ⟨d, .build t #[(i0, x0), (i1, x1), (i2, x2), (i3, x3), (i4, x4), (i5, x5)], ty, pos, af, gd⟩).run P w = .ok (.value (.agg cs.toArray)) w := by
  have := run_build (P := P) w t #[(i0, v0), (i1, v1), (i2, v2), (i3, v3), (i4, v4), (i5, v5)] cs.toArray (by simpa using hb)
  simp only [execOp, List.map_toArray, List.map_cons, List.map_nil, h0, h1, h2, h3, h4, h5, Sem.run_bind, this, Result.andThen_ok]
  rfl
end
end Coup
namespace Go.Proofs.YtielfpkjoidomaaGreat
open Go Go.RowKit Coup
def keysP (c : PgM) (n : Nat) : List Int := keysOf (mapV c) 0 n
def numsP (R : Rec) : List Int := R.map (·.num)
theorem cntP_le (n : Nat) (s : Int) : 4 * cntP n s ≤ n := by
  unfold cntP
  split <;> omega
def NewI (w : World) (l : List Int) (v : Value) (w' : World) : Prop := ∃ p c, v = .slice p l.length c ∧ SlAt w' p l.length 1 (iv l) ∧ ∀ b o, p = some ⟨b, o, none⟩ → w.heap.size ≤ b
section
variable {Y : World → List Nat → Prop} [Thing Y] {g x q mc md lo : Nat} {rv cv : Value} {L : List Nat} {P : Pl} {w : World}
omit [Thing Y] in
theorem PlAt.nle (h : PlAt g x q mc md rv cv Y lo L P w) : P.n ≤ 2048 ∧ P.D.V.length ≤ 8192 := by
  have h1 := (tOk h.lg.fst).1.n
  have h2 := cntP_le P.D.V.length P.G.size
  unfold Pl.n
  exact ⟨by omega, h1⟩
set_option maxRecDepth 20000 in
theorem changedP (h : PlAt g x q mc md rv cv Y lo L P w) : Calls Tryz.prog 15 [.pointer (some ⟨q, 0, none⟩)].toArray w (Ret fun v w' => NewI w (keysP P.ch P.n) v w' ∧ Below w.heap.size w w') := by
  have hB := Below.refl w.heap.size w
  have hN := h.nle.1
  have hq := h.row
  unfold plV at hq
  refine calls_W (fn := Tryz.f15) (rs := [.tmp 2]) (n := 10) Tryz.func15 rfl rfl Tryz.ntmps15 (by kernel_rfl) rfl ?_
  refine W_seq ?_
  refine W_region ?_
  refine WR_val rfl (rn_assign) ?_
  refine WR_nil ?_
  refine thenN ?_
  refine W_seq ?_
  refine W_seq ?_
  refine W_region ?_
  refine WR_val rfl (rn_move) ?_
  refine WR_val rfl (rn_eqlP1 (by kernel_rfl) rfl rfl) ?_
  refine WR_nil ?_
  refine thenN ?_
  refine W_fb rfl (rfl) ?_
  refine W_skip ?_
  refine thenN ?_
  refine W_seq ?_
  refine W_region ?_
  refine WR_val rfl (rn_move) ?_
  refine WR_val rfl (rn_nilCheckP rfl) ?_
  refine WR_val rfl (rn_fieldAddr (off := 4) (by kernel_rfl) rfl) ?_
  refine WR_val rfl (rn_load rfl (Ld.row1 hq (by kernel_rfl) rfl)) ?_
  refine WR_ent rfl (rn_call (by kernel_rfl) rfl) (keysF w h.mch (by omega)) ?_
  rintro _ w9 ⟨⟨p, c, rfl, hsl, hpb⟩, hb9⟩
  replace h := h.new hb9
  replace hq := hq.new hb9
  replace hB := hB.acc hb9
  refine WR_val rfl (rn_assign) ?_
  refine WR_nil ?_
  refine thenN ?_
  refine W_ret ?_
  refine ret_ret [_] ⟨rfl, trivial⟩ ?_
  exact ⟨⟨p, c, rfl, hsl, hpb⟩, hB⟩
set_option maxRecDepth 20000 in
theorem dirtyP (h : PlAt g x q mc md rv cv Y lo L P w) : Calls Tryz.prog 21 [.pointer (some ⟨q, 0, none⟩)].toArray w (Ret fun v w' => NewI w (keysP P.di P.n) v w' ∧ Below w.heap.size w w') := by
  have hB := Below.refl w.heap.size w
  have hN := h.nle.1
  have hq := h.row
  unfold plV at hq
  refine calls_W (fn := Tryz.f21) (rs := [.tmp 2]) (n := 10) Tryz.func21 rfl rfl Tryz.ntmps21 (by kernel_rfl) rfl ?_
  refine W_seq ?_
  refine W_region ?_
  refine WR_val rfl (rn_assign) ?_
  refine WR_nil ?_
  refine thenN ?_
  refine W_seq ?_
  refine W_seq ?_
  refine W_region ?_
  refine WR_val rfl (rn_move) ?_
  refine WR_val rfl (rn_eqlP1 (by kernel_rfl) rfl rfl) ?_
  refine WR_nil ?_
  refine thenN ?_
  refine W_fb rfl (rfl) ?_
  refine W_skip ?_
  refine thenN ?_
  refine W_seq ?_
  refine W_region ?_
  refine WR_val rfl (rn_move) ?_
  refine WR_val rfl (rn_nilCheckP rfl) ?_
  refine WR_val rfl (rn_fieldAddr (off := 5) (by kernel_rfl) rfl) ?_
  refine WR_val rfl (rn_load rfl (Ld.row1 hq (by kernel_rfl) rfl)) ?_
  refine WR_ent rfl (rn_call (by kernel_rfl) rfl) (keysF w h.mdi (by omega)) ?_
  rintro _ w9 ⟨⟨p, c, rfl, hsl, hpb⟩, hb9⟩
  replace h := h.new hb9
  replace hq := hq.new hb9
  replace hB := hB.acc hb9
  refine WR_val rfl (rn_assign) ?_
  refine WR_nil ?_
  refine thenN ?_
  refine W_ret ?_
  refine ret_ret [_] ⟨rfl, trivial⟩ ?_
  exact ⟨⟨p, c, rfl, hsl, hpb⟩, hB⟩
set_option maxRecDepth 20000 in
theorem roomP (h : PlAt g x q mc md rv cv Y lo L P w) (hok : LgOk P.D P.G) : Calls Tryz.prog 22 [.pointer (some ⟨q, 0, none⟩)].toArray w (Ret fun v w' => v = .int .i64 ((P.G.size - P.G.at_ : Nat) : Int) ∧ Below w.heap.size w w') := by
  have hB := Below.refl w.heap.size w
  have hq := h.row
  unfold plV at hq
  refine calls_W (fn := Tryz.f22) (rs := [.tmp 2]) (n := 10) Tryz.func22 rfl rfl Tryz.ntmps22 (by kernel_rfl) rfl ?_
  refine W_seq ?_
  refine W_region ?_
  refine WR_val rfl (rn_assign) ?_
  refine WR_nil ?_
  refine thenN ?_
  refine W_seq ?_
  refine W_seq ?_
  refine W_region ?_
  refine WR_val rfl (rn_move) ?_
  refine WR_val rfl (rn_eqlP1 (by kernel_rfl) rfl rfl) ?_
  refine WR_nil ?_
  refine thenN ?_
  refine W_fb rfl (rfl) ?_
  refine W_skip ?_
  refine thenN ?_
  refine W_seq ?_
  refine W_region ?_
  refine WR_val rfl (rn_move) ?_
  refine WR_val rfl (rn_nilCheckP rfl) ?_
  refine WR_val rfl (rn_fieldAddr (off := 1) (by kernel_rfl) rfl) ?_
  refine WR_val rfl (rn_load rfl (Ld.row1 hq (by kernel_rfl) rfl)) ?_
  refine WR_ent rfl (rn_call (by kernel_rfl) rfl) (room19 h.lg hok.at_ hok.szm) ?_
  rintro _ w9 ⟨rfl, hb9⟩
  replace h := h.new hb9
  replace hq := hq.new hb9
  replace hB := hB.acc hb9
  refine WR_val rfl (rn_assign) ?_
  refine WR_nil ?_
  refine thenN ?_
  refine W_ret ?_
  refine ret_ret [_] ⟨rfl, trivial⟩ ?_
  exact ⟨rfl, hB⟩
omit [Thing Y] in
theorem PlAt.cvIs (h : PlAt g x q mc md rv cv Y lo L P w) : ∃ p c, cv = .slice p P.cl.length c ∧ SlAt w p P.cl.length 513 (chsV P.cl) := by
  have ho := h.own
  rcases h.own.2 with ⟨rfl, h0⟩ | ⟨gc, o, c, cur, hcv, _⟩
  · rw [h0] at ho ⊢; exact ⟨none, 0, rfl, ho.sl⟩
  · subst hcv; exact ⟨_, c, rfl, ho.sl⟩
set_option maxRecDepth 20000 in
theorem abortP (h : PlAt g x q mc md rv cv Y lo L P w) (hok : PlOk P) : Calls Tryz.prog 14 [.pointer (some ⟨q, 0, none⟩)].toArray w (Ret fun v w' => v = .int .i64 (if P.dead then 10 else 0) ∧ PlAt g x q mc md rv cv Y lo L { P with ch := if P.dead then P.ch else noP } w' ∧ LoL lo L w w') := by
  have hLL := LoL.refl lo L w
  have hrd := readyP h hok.lg.szm 0
  have hn4 := hok.n4
  obtain ⟨hml, hmL⟩ := h.mcl
  unfold readyE at hrd
  have hin : (0 : Int) ≤ 0 ∧ (0 : Int) < (P.n : Int) := by omega
  rw [if_pos hin] at hrd
  have hq := h.row
  unfold plV at hq
  refine calls_W (fn := Tryz.f14) (rs := [.tmp 2]) (n := 13) Tryz.func14 rfl rfl Tryz.ntmps14 (by kernel_rfl) rfl ?_
  refine W_seq ?_
  refine W_region ?_
  refine WR_val rfl (rn_assign) ?_
  refine WR_nil ?_
  refine thenN ?_
  refine W_seq ?_
  refine W_seq ?_
  refine W_region ?_
  refine WR_val rfl (rn_move) ?_
  refine WR_ent rfl (rn_call (by kernel_rfl) rfl) (hrd) ?_
  rintro _ w5 ⟨rfl, hb5⟩
  replace h := h.new hb5
  replace hq := hq.new hb5
  replace hLL := hLL.new hb5
  refine WR_val rfl (rn_assign) ?_
  refine WR_nil ?_
  refine thenN ?_
  refine W_seq ?_
  refine W_region ?_
  refine WR_val rfl (rn_move) ?_
  refine WR_val rfl (rn_neq rfl rfl) ?_
  refine WR_nil ?_
  refine thenN ?_
  refine W_ifp rfl (fun hne => ?_) (fun hne => ?_)
  ·
    refine W_seq ?_
    refine W_region ?_
    refine WR_val rfl (rn_move) ?_
    refine WR_val rfl (rn_assign) ?_
    refine WR_nil ?_
    refine thenN ?_
    refine W_ret ?_
    refine thenR ?_
    refine ret_ret [_] ⟨rfl, trivial⟩ ?_
    have hd : P.dead = true := by
      cases hd : P.dead with
      | true => rfl
      | false => simp [hd] at hne
    rw [if_pos hd, if_pos hd]
    exact ⟨rfl, h, hLL⟩
  ·
    have hd : ¬ P.dead = true := fun hd => by simp [hd] at hne
    rw [if_neg hd, if_neg hd]
    refine W_skip ?_
    refine thenN ?_
    refine W_seq ?_
    refine W_region ?_
    refine WR_val rfl (rn_move) ?_
    refine WR_val rfl (rn_nilCheckP rfl) ?_
    refine WR_val rfl (rn_fieldAddr (off := 4) (by kernel_rfl) rfl) ?_
    refine WR_val rfl (rn_load rfl (Ld.row1 hq (by kernel_rfl) rfl)) ?_
    have hm := h.mch
    refine WR_mk rfl (mk_clearMap (k := 3) (e := 37) (by kernel_rfl) hm rfl (fun w901 hm ho901 => ?_))
    replace hLL := hLL.only ho901 (by first | omega | (right; exact ⟨by omega, by assumption⟩))
    have hP := h.setCh (c := noP) hm ho901
    refine WR_nil ?_
    refine thenN ?_
    refine W_seq ?_
    refine W_region ?_
    refine WR_val rfl (rn_assign) ?_
    refine WR_nil ?_
    refine thenN ?_
    refine W_ret ?_
    refine ret_ret [_] ⟨rfl, trivial⟩ ?_
    exact ⟨rfl, hP, hLL⟩
end
end Go.Proofs.YtielfpkjoidomaaGreat
namespace Go.Proofs.YtielfpkjoidomaaGreat
open Go Go.RowKit Coup
def frameC (fr : Nat) (R : Rec) (n : Int) (X : Pg) : Rec := if fr < (without R n ++ ([⟨n, X⟩] : Rec)).length then (without R n ++ ([⟨n, X⟩] : Rec)).drop 1 else without R n ++ [⟨n, X⟩]
theorem without_ok {R : Rec} (h : chsOk R) (n : Int) : chsOk (without R n) := fun c hc => h c (List.mem_filter.1 hc).1
theorem without_len (R : Rec) (n : Int) : (without R n).length ≤ R.length := List.length_filter_le _ _
theorem snoc_ok {R : Rec} (h : chsOk R) {n : Int} {X : Pg} (hX : X.length = 512) : chsOk (R ++ [⟨n, X⟩]) := fun c hc => by
  rcases List.mem_append.1 hc with hc | hc
  · exact h c hc
  · rw [List.mem_singleton.1 hc]; exact hX
theorem frameC_ok {fr : Nat} {R : Rec} (h : chsOk R) (hl : R.length ≤ fr) (n : Int) {X : Pg} (hX : X.length = 512) : chsOk (frameC fr R n X) ∧ (frameC fr R n X).length ≤ fr := by
  have h1 := snoc_ok (without_ok h n) (n := n) hX
  have h2 := without_len R n
  unfold frameC
  split
  · exact ⟨fun c hc => h1 c (List.mem_of_mem_drop hc), by rw [List.length_drop, List.length_append, List.length_singleton]; omega⟩
  · exact ⟨h1, by omega⟩
section
variable {Y : World → List Nat → Prop} [Thing Y] {g x q mc md lo : Nat} {rv cv : Value} {L : List Nat} {P : Pl} {w : World}
omit [Thing Y] in
theorem PlAt.ownIs (h : PlAt g x q mc md rv cv Y lo L P w) (h0 : 0 < P.cl.length) : ∃ gc o c, cv = .slice (some ⟨gc, o, none⟩) P.cl.length c ∧ OwnG w 0 73 513 gc o P.cl.length c (chsV P.cl) := by
  have ho := h.own
  rcases h.own.2 with ⟨_, h1⟩ | ⟨gc, o, c, cur, hcv, _⟩
  · omega
  · subst hcv; exact ⟨gc, o, c, rfl, ho⟩
theorem deleteF2 (R : Rec) (hR : chsOk R) (g o c : Nat) (h2 : 2 ≤ R.length) (w : World) (h : OwnG w 0 73 513 g o R.length c (chsV R)) :
    Calls Tryz.prog 85 [.slice (some ⟨g, o, none⟩) R.length c, .int .i64 0, .int .i64 1].toArray w (Ret fun v w' => v = .slice (some ⟨g, o, none⟩) (R.drop 1).length c ∧ OwnG w' 0 73 513 g o (R.drop 1).length c (chsV (R.drop 1)) ∧ KpB [g] w w') := deleteF R hR g o R.length c 0 rfl h2 w h
set_option maxRecDepth 20000 in
set_option maxHeartbeats 1000000 in
theorem frameP (h : PlAt g x q mc md cv cv Y lo L P w) (hR : chsOk P.cl) (hl : P.cl.length ≤ P.fr) (hf2 : 2 ≤ P.fr) (hfm : P.fr ≤ 100) (n : Int) (X : Pg) (hX : X.length = 512) :
    Calls Tryz.prog 60 [.pointer (some ⟨q, 0, none⟩), .int .i64 n, .agg (bv X).toArray].toArray w (Ret fun v w' => v = .tuple #[] ∧ (∃ cv', PlAt g x q mc md cv' cv' Y lo L { P with cl := frameC P.fr P.cl n X } w') ∧ LoL lo L w w') := by
  have hLL := LoL.refl lo L w
  have hml : maxLen = 9223372036854775807 := by decide
  obtain ⟨hql, hqL⟩ := h.ql
  have hXb : (bv X).length = 512 := by rw [bv_length]; exact hX
  have hchl : (chV ⟨n, X⟩).length = 1 * 513 := chV_len hX
  have hch1 := chV_one ⟨n, X⟩
  have hRw := without_ok hR n
  have hwl := without_len P.cl n
  have hfg := fun L' w' (h' : PlAt g x q mc md cv cv Y lo L' P w') => forgetP h' hR n
  unfold frameC
  obtain ⟨T, hT⟩ : ∃ T, without P.cl n = T := ⟨_, rfl⟩
  simp only [hT] at hfg hRw hwl ⊢
  have hRs := snoc_ok hRw (n := n) hX
  have hTl : (T ++ [(⟨n, X⟩ : Ch)]).length = T.length + 1 := by rw [List.length_append, List.length_singleton]
  have hTp : 0 < (T ++ [(⟨n, X⟩ : Ch)]).length := by omega
  refine calls_W (fn := Tryz.f60) (rs := []) (n := 39) Tryz.func60 rfl rfl Tryz.ntmps60 (by kernel_rfl) rfl ?_
  refine W_seq ?_
  refine W_region ?_
  refine WR_mk rfl (mk_box (bv X) rfl (fun g5 w5 hg5 hr5 hb5 => ?_))
  replace h := h.newc hb5 hg5 hr5.lt
  replace hLL := hLL.new hb5
  refine WR_nil ?_
  refine thenN ?_
  refine W_seq ?_
  refine W_region ?_
  refine WR_val rfl (rn_move) ?_
  refine WR_val rfl (rn_move) ?_
  refine WR_ent rfl (rn_call (by kernel_rfl) rfl) (hfg _ w5 h) ?_
  rintro _ w8 ⟨rfl, ⟨cv2, h⟩, hb8⟩
  replace hLL := hLL.ll hb8 (by first | (intro b hb; exact hb) | (intro b hb; simp [hb]; done) | simp)
  replace hr5 := hr5.kpd hb8.kp (by first | (refine notLL ?_; left; omega) | (refine notLL ?_; right; simp; done) | (intro b o e; cases e; first | (refine notLL ?_; left; omega) | (refine notLL ?_; right; simp; done) | (refine notLL ?_; right; simp [*]; done)) | (intro b hb; refine notLL ?_; left; omega) | (intro b hb e; cases e; exact notLL (by right; simp [*]) hb))
  refine WR_nil ?_
  refine thenN ?_
  refine W_cut (fun _ : Unit => [(0, .pointer (some ⟨q, 0, none⟩))]) (fun _ w' => (∃ cv3, PlAt g x q mc md cv3 cv3 Y lo (g5 :: L) { P with cl := T ++ [⟨n, X⟩] } w') ∧ LoL lo L w w') ?_ ?_
  ·
    have hq := h.row
    have hown := h.own
    unfold plV at hq
    dsimp only at hq hown
    have hg5c : g5 ∉ cv2.ownBlock.toList := fun hm => (h.cq g5 hm).2.2.2.2 (List.mem_cons_self ..)
    have hg5q : g5 ≠ q := fun e => h.ql.2 (e ▸ List.mem_cons_self ..)
    refine W_draw' ((q :: cv2.ownBlock.toList)) (by kernel_rfl) ?_
    intro w901 hb901 hS901
    replace h := h.new hb901
    replace hLL := hLL.new hb901
    replace hr5 := hr5.new hb901
    replace hq := hq.new hb901
    replace hown := hown.new hb901
    have h_d901 := h
    have hLL_d901 := hLL
    have hr5_d901 := hr5
    have hq_d901 := hq
    have hown_d901 := hown
    refine WA_take 0 (by kernel_rfl) rfl (fun _ _ => rn_move) ?_
    refine WA_take 1 (by kernel_rfl) rfl (fun _ _ => rn_move) ?_
    refine WA_take 2 (by kernel_rfl) rfl (fun _ _ => rn_nilCheckP rfl) ?_
    refine WA_take 3 (by kernel_rfl) rfl (fun _ _ => rn_fieldAddr (off := 6) (by kernel_rfl) rfl) ?_
    refine WA_take 5 (by kernel_rfl) rfl (fun _ _ => rn_move) ?_
    refine WA_take 6 (by kernel_rfl) rfl (fun w' hS' => rn_load rfl (Ld.rowA (k := 512) (hr5_d901.kpd hS' (by first | (simp; done) | (simp; omega) | (simp [*]; done) | exact notLL (Or.inl (by omega)) | exact notLL (Or.inr (by simp)) | exact fun g hm => Nat.le_trans (by omega) (inLL hm).1 | (intro b o e; cases e; exact notLL (Or.inl (by omega))) | (intro b hm; have := (hu.lt b (Option.mem_toList.1 hm)).1; omega) | (intro b o e; cases e; intro hm; have := (hu.lt _ (Option.mem_toList.1 hm)).1; omega))) (by kernel_rfl) (by kernel_rfl) (by first | (simp; done) | (simp [bv_length, *]; done) | assumption))) ?_
    refine WA_take 7 (by kernel_rfl) rfl (fun _ _ => rn_buildCh hX rfl rfl rfl) ?_
    refine WA_two 4 8 (by kernel_rfl) ?_ ?_
    ·
      refine WO_val rfl rfl (rn_load rfl (Ld.row1 hq (by kernel_rfl) rfl)) hS901 ?_
      refine WA_one 8 (by kernel_rfl) ?_
      refine WO_mk rfl rfl (mk_one (e := 73) (.agg (chV ⟨n, X⟩).toArray) (chV ⟨n, X⟩) (([Value.int .i64 0]) ++ (List.replicate 512 (Value.int .u8 0))) 513 (by kernel_rfl) (by kernel_rfl) rfl rfl (by first | rfl | (simp; done) | (simp [bv_length, *]; done)) ⟨by decide, by decide⟩ (fun g17 w17 hg17 hr17 hb17 => ?_))
      have hS903 := hS901.add0 hb17
      refine ⟨hS903, ?_⟩
      have ge_hS901_g17 := Nat.le_trans hS901.size hg17
      have lt_g5_g17 : g5 < g17 := Nat.lt_of_lt_of_le hr5.lt hg17
      have lt_q_g17 : q < g17 := Nat.lt_of_lt_of_le hq.lt hg17
      replace h := h.newc hb17 hg17 hr17.lt
      replace hLL := hLL.new hb17
      replace hr5 := hr5.new hb17
      replace hq := hq.new hb17
      replace hown := hown.new hb17
      refine WA_one 9 (by kernel_rfl) ?_
      have hs17 := hr17.slA (m := 1) (sz := 513) hchl (by omega)
      refine WO_mk rfl rfl (mk_append (v := cv2) (e := 73) (sz := 513) (bytes := 520) (z := .agg (([Value.int .i64 0]) ++ (List.replicate 512 (Value.int .u8 0))).toArray) (by kernel_rfl) rfl (by kernel_rfl) rfl (by decide) rfl hown rfl hs17 hch1 (by omega) (by omega) (fun hm0 => Nat.zero_le _) (fun v18 w18 hv18 hgr18 hfr18 => ?_))
      rw [← chsV_snoc, ← hTl] at hv18
      have hgr : w17.grownBy w18 cv2.ownBlock := hgr18
      have hfr : ∀ g, v18.ownBlock = some g → cv2.ownBlock = some g ∨ w17.heap.size ≤ g := hfr18
      clear hgr18 hfr18
      have hk18 := (Kp.of_grown hgr).weak (N := q :: cv2.ownBlock.toList) (fun _ _ hm => List.mem_cons_of_mem _ hm)
      have hl18 := h.outC (Kp.of_grown hgr)
      have h2 : PlAt g x q mc md cv2 v18 Y lo (g17 :: g5 :: L) { P with cl := T ++ [⟨n, X⟩] } w18 := h.setOwn hv18 (Kp.of_grown hgr) hfr
      clear h
      have h := h2
      clear h2
      have hvi := h.ownIs hTp
      obtain ⟨gn, on, cn, hvn, hown2⟩ := hvi
      subst hvn
      replace hLL := hLL.ll (hl18.weak (L2 := L) (Nat.le_refl _) (fun b hb => by simp [hb])) (fun b hb => hb)
      replace hq := h.row
      unfold plV at hq
      have hS904 := hS903.trans hk18
      refine ⟨hS904, ?_⟩
      refine WA_take 10 (by kernel_rfl) rfl (fun _ _ => rn_nilCheckP rfl) ?_
      refine WA_take 11 (by kernel_rfl) rfl (fun _ _ => rn_fieldAddr (off := 6) (by kernel_rfl) rfl) ?_
      refine WA_one 12 (by kernel_rfl) ?_
      refine WO_sk rfl rfl (sk_store1 rfl rfl rfl rfl hq (by kernel_rfl) (by first | (simp only [List.length_replicate]; omega) | (simp only [iv_length]; omega) | (simp only [bv_length, List.length_set]; omega) | simp) (fun w906 hq ho906 => ?_))
      have hS905 := hS904.add1 ho906 (by first | (left; omega) | (right; simp; done) | (right; simp; omega))
      refine ⟨hS905, ?_⟩
      replace hLL := hLL.only ho906 (by first | omega | (right; exact ⟨by omega, by assumption⟩))
      have hP := h.setRow hq ho906
      refine WA_done (by kernel_rfl) ?_
      refine loopN ⟨(), ⟨rfl, rfl⟩, ⟨_, hP.weak (fun b hb => List.mem_cons_of_mem _ hb)⟩, hLL⟩
    ·
      refine WO_mk rfl rfl (mk_one (e := 73) (.agg (chV ⟨n, X⟩).toArray) (chV ⟨n, X⟩) (([Value.int .i64 0]) ++ (List.replicate 512 (Value.int .u8 0))) 513 (by kernel_rfl) (by kernel_rfl) rfl rfl (by first | rfl | (simp; done) | (simp [bv_length, *]; done)) ⟨by decide, by decide⟩ (fun g17 w17 hg17 hr17 hb17 => ?_))
      have hS907 := hS901.add0 hb17
      refine ⟨hS907, ?_⟩
      have ge_hS901_g17 := Nat.le_trans hS901.size hg17
      have lt_g5_g17 : g5 < g17 := Nat.lt_of_lt_of_le hr5.lt hg17
      have lt_q_g17 : q < g17 := Nat.lt_of_lt_of_le hq.lt hg17
      replace h := h.newc hb17 hg17 hr17.lt
      replace hLL := hLL.new hb17
      replace hr5 := hr5.new hb17
      replace hq := hq.new hb17
      replace hown := hown.new hb17
      refine WA_one 4 (by kernel_rfl) ?_
      refine WO_val rfl rfl (rn_load rfl (Ld.row1 hq (by kernel_rfl) rfl)) hS907 ?_
      refine WA_one 9 (by kernel_rfl) ?_
      have hs17 := hr17.slA (m := 1) (sz := 513) hchl (by omega)
      refine WO_mk rfl rfl (mk_append (v := cv2) (e := 73) (sz := 513) (bytes := 520) (z := .agg (([Value.int .i64 0]) ++ (List.replicate 512 (Value.int .u8 0))).toArray) (by kernel_rfl) rfl (by kernel_rfl) rfl (by decide) rfl hown rfl hs17 hch1 (by omega) (by omega) (fun hm0 => Nat.zero_le _) (fun v18 w18 hv18 hgr18 hfr18 => ?_))
      rw [← chsV_snoc, ← hTl] at hv18
      have hgr : w17.grownBy w18 cv2.ownBlock := hgr18
      have hfr : ∀ g, v18.ownBlock = some g → cv2.ownBlock = some g ∨ w17.heap.size ≤ g := hfr18
      clear hgr18 hfr18
      have hk18 := (Kp.of_grown hgr).weak (N := q :: cv2.ownBlock.toList) (fun _ _ hm => List.mem_cons_of_mem _ hm)
      have hl18 := h.outC (Kp.of_grown hgr)
      have h2 : PlAt g x q mc md cv2 v18 Y lo (g17 :: g5 :: L) { P with cl := T ++ [⟨n, X⟩] } w18 := h.setOwn hv18 (Kp.of_grown hgr) hfr
      clear h
      have h := h2
      clear h2
      have hvi := h.ownIs hTp
      obtain ⟨gn, on, cn, hvn, hown2⟩ := hvi
      subst hvn
      replace hLL := hLL.ll (hl18.weak (L2 := L) (Nat.le_refl _) (fun b hb => by simp [hb])) (fun b hb => hb)
      replace hq := h.row
      unfold plV at hq
      have hS909 := hS907.trans hk18
      refine ⟨hS909, ?_⟩
      refine WA_take 10 (by kernel_rfl) rfl (fun _ _ => rn_nilCheckP rfl) ?_
      refine WA_take 11 (by kernel_rfl) rfl (fun _ _ => rn_fieldAddr (off := 6) (by kernel_rfl) rfl) ?_
      refine WA_one 12 (by kernel_rfl) ?_
      refine WO_sk rfl rfl (sk_store1 rfl rfl rfl rfl hq (by kernel_rfl) (by first | (simp only [List.length_replicate]; omega) | (simp only [iv_length]; omega) | (simp only [bv_length, List.length_set]; omega) | simp) (fun w911 hq ho911 => ?_))
      have hS910 := hS909.add1 ho911 (by first | (left; omega) | (right; simp; done) | (right; simp; omega))
      refine ⟨hS910, ?_⟩
      replace hLL := hLL.only ho911 (by first | omega | (right; exact ⟨by omega, by assumption⟩))
      have hP := h.setRow hq ho911
      refine WA_done (by kernel_rfl) ?_
      refine loopN ⟨(), ⟨rfl, rfl⟩, ⟨_, hP.weak (fun b hb => List.mem_cons_of_mem _ hb)⟩, hLL⟩
  ·
    clear h hLL
    rintro _ f2 w2 ⟨⟨cv3, h⟩, hLL⟩
    have hq := h.row
    unfold plV at hq
    dsimp only at hq
    have hobt := h.ownIs (by dsimp only; omega)
    obtain ⟨gc, o, c, hcv, hown⟩ := hobt
    subst hcv
    dsimp only at hown
    have hcq := h.cq gc (List.mem_cons_self ..)
    have hgL : ∀ b ∈ [gc], (lo ≤ b ∧ b ∉ L) ∨ w.heap.size ≤ b := fun b hb => .inl (by rw [List.mem_singleton.1 hb]; exact ⟨hcq.2.2.2.1, fun hm => hcq.2.2.2.2 (List.mem_cons_of_mem _ hm)⟩)
    have hqg : q ≠ gc := Ne.symm hcq.1
    refine W_seq ?_
    refine W_draw' [] (by kernel_rfl) ?_
    intro w912 hb912 hS912
    replace h := h.new hb912
    replace hLL := hLL.new hb912
    replace hq := hq.new hb912
    have h_d912 := h
    have hLL_d912 := hLL
    have hq_d912 := hq
    refine WA_take 0 (by kernel_rfl) rfl (fun _ _ => rn_move) ?_
    refine WA_take 1 (by kernel_rfl) rfl (fun _ _ => rn_nilCheckP rfl) ?_
    refine WA_take 2 (by kernel_rfl) rfl (fun _ _ => rn_fieldAddr (off := 6) (by kernel_rfl) rfl) ?_
    refine WA_take 3 (by kernel_rfl) rfl (fun w' hS' => rn_load rfl (Ld.row1 (hq_d912.kpd hS' (by first | (simp; done) | (simp; omega) | (simp [*]; done) | exact notLL (Or.inl (by omega)) | exact notLL (Or.inr (by simp)) | exact fun g hm => Nat.le_trans (by omega) (inLL hm).1 | (intro b o e; cases e; exact notLL (Or.inl (by omega))) | (intro b hm; have := (hu.lt b (Option.mem_toList.1 hm)).1; omega) | (intro b o e; cases e; intro hm; have := (hu.lt _ (Option.mem_toList.1 hm)).1; omega))) (by kernel_rfl) rfl)) ?_
    refine WA_take 4 (by kernel_rfl) rfl (fun _ _ => rn_lenSl (e := 73) (sz := 513) (by kernel_rfl) rfl rfl) ?_
    refine WA_take 5 (by kernel_rfl) rfl (fun _ _ => rn_move) ?_
    refine WA_take 6 (by kernel_rfl) rfl (fun _ _ => rn_nilCheckP rfl) ?_
    refine WA_take 7 (by kernel_rfl) rfl (fun _ _ => rn_fieldAddr (off := 3) (by kernel_rfl) rfl) ?_
    refine WA_take 8 (by kernel_rfl) rfl (fun w' hS' => rn_load rfl (Ld.row1 (hq_d912.kpd hS' (by first | (simp; done) | (simp; omega) | (simp [*]; done) | exact notLL (Or.inl (by omega)) | exact notLL (Or.inr (by simp)) | exact fun g hm => Nat.le_trans (by omega) (inLL hm).1 | (intro b o e; cases e; exact notLL (Or.inl (by omega))) | (intro b hm; have := (hu.lt b (Option.mem_toList.1 hm)).1; omega) | (intro b o e; cases e; intro hm; have := (hu.lt _ (Option.mem_toList.1 hm)).1; omega))) (by kernel_rfl) rfl)) ?_
    refine WA_take 9 (by kernel_rfl) rfl (fun _ _ => rn_gtr rfl rfl) ?_
    refine WA_done (by kernel_rfl) ?_
    refine thenN ?_
    refine W_ifp rfl (fun hgt => ?_) (fun hgt => ?_)
    ·
      have hT2 : 2 ≤ (T ++ [(⟨n, X⟩ : Ch)]).length := by rw [hTl]; dsimp only at hgt; omega
      have hT3 : P.fr < (T ++ [(⟨n, X⟩ : Ch)]).length := by rw [hTl]; dsimp only at hgt; omega
      rw [if_pos hT3]
      refine W_region ?_
      refine WR_val rfl (rn_move) ?_
      refine WR_val rfl (rn_move) ?_
      refine WR_val rfl (rn_nilCheckP rfl) ?_
      refine WR_val rfl (rn_fieldAddr (off := 6) (by kernel_rfl) rfl) ?_
      refine WR_val rfl (rn_load rfl (Ld.row1 hq (by kernel_rfl) rfl)) ?_
      have hown3 : OwnG w912 0 73 513 gc o (T ++ [(⟨n, X⟩ : Ch)]).length c (chsV (T ++ [⟨n, X⟩])) := h.own
      refine WR_ent rfl (rn_call (by kernel_rfl) rfl) (deleteF2 _ hRs gc o c hT2 w912 hown3) ?_
      rintro _ w36 ⟨rfl, hown, hb36⟩
      replace h := h.setOwn hown hb36.k (fun b e => Or.inl e)
      replace hLL := hLL.kpd hb36.k hgL
      replace hq := hq.kpd hb36.k (by first | (simp; done) | (simp; omega))
      refine WR_val rfl (rn_nilCheckP rfl) ?_
      refine WR_val rfl (rn_fieldAddr (off := 6) (by kernel_rfl) rfl) ?_
      refine WR_sk rfl (sk_store1 rfl rfl rfl rfl hq (by kernel_rfl) (by first | (simp only [List.length_replicate]; omega) | (simp only [iv_length]; omega) | (simp only [bv_length, List.length_set]; omega) | simp) (fun w913 hq ho913 => ?_))
      replace hLL := hLL.only ho913 (by first | omega | (right; exact ⟨by omega, by assumption⟩))
      have hP := h.setRow hq ho913
      refine WR_nil ?_
      refine ret_normal [] trivial ?_
      exact ⟨rfl, ⟨_, hP.weak (fun b hb => List.mem_cons_of_mem _ hb)⟩, hLL⟩
    ·
      rw [if_neg (by rw [hTl]; dsimp only at hgt; omega)]
      refine W_skip ?_
      refine ret_normal [] trivial ?_
      exact ⟨rfl, ⟨_, h.weak (fun b hb => List.mem_cons_of_mem _ hb)⟩, hLL⟩
end
end Go.Proofs.YtielfpkjoidomaaGreat
namespace Go.Proofs.YtielfpkjoidomaaGreat
open Go Go.RowKit Coup
def pageD (D : Dk) (a : Nat) : Pg := ((List.range 4).map fun i => readD D (a + i)).flatten
theorem pageD_part {D : Dk} {a : Nat} (h : DkOk D) (hn : a + 4 ≤ D.V.length) : (pageD D a).length = 512 ∧ ∀ i, i < 4 → ((pageD D a).drop (128 * i)).take 128 = readD D (a + i) := by
  have hs : secsOk ((List.range 4).map fun i => readD D (a + i)) := fun s hs => by
    obtain ⟨i, hi, rfl⟩ := List.mem_map.1 hs
    exact readD_len h (by have := List.mem_range.1 hi; omega)
  refine ⟨by rw [pageD, flat_len hs]; simp, fun i hi => ?_⟩
  have := flat_at hs (i := i) (s := readD D (a + i)) (by rw [List.getElem?_map, List.getElem?_range hi]; rfl)
  rw [Nat.mul_comm 128 i]
  exact this
def askX (P : Pl) (n : Nat) : Pg := match P.di n with
  | some b => b
  | none => match P.cl[idxC P.cl n]? with
    | some c => c.page
    | none => pageD P.D (1 + P.G.size + n * 4)
def askP (P : Pl) (n : Nat) : Pl := match P.di n with
  | some _ => P
  | none => { P with cl := frameC P.fr P.cl n (askX P n) }
theorem n_room {P : Pl} (hok : PlOk P) {n : Nat} (hn : n < P.n) : 1 + P.G.size + n * 4 + 4 ≤ P.D.V.length ∧ 4 ≤ P.G.size ∧ P.G.size ≤ 4000 := by
  unfold Pl.n cntP at hn
  split at hn
  · omega
  · rw [Int.toNat_natCast] at hn; omega
theorem askX_len {P : Pl} (hok : PlOk P) (hD : DkOk P.D) {n : Nat} (hn : n < P.n) : (askX P n).length = 512 := by
  unfold askX
  split
  · exact hok.di _ _ ‹_›
  · split
    · exact hok.cl _ (List.mem_of_getElem? ‹_›)
    · exact (pageD_part hD (n_room hok hn).1).1
theorem ld_pg {w : World} {g o n : Nat} {R : Rec} (h : SlAt w (some ⟨g, o, none⟩) n 513 (chsV R)) (hR : chsOk R) {i : Nat} {c : Ch} (hc : R[i]? = some c) : Ld Tryz.prog w 37 ⟨g, o + i * 513 + 1, none⟩ (.agg (bv c.page).toArray) := by
  have hi := (List.getElem?_eq_some_iff.1 hc).1
  have hl := chsV_len hR
  have h1 := Ld.slN (P := Tryz.prog) (t := 37) (j := i * 513 + 1) (k := 512) h (by kernel_rfl) (by kernel_rfl) (by omega)
  have h2 := chsV_at hR hc
  have hp := hR c (List.mem_of_getElem? hc)
  have e : ((chsV R).drop (i * 513 + 1)).take 512 = bv c.page := by
    have e1 : (((chsV R).drop (i * 513)).take 513).drop 1 = bv c.page := by rw [h2]; rfl
    rw [List.drop_take, List.drop_drop] at e1
    exact e1
  rw [e] at h1
  exact h1
def zP : List Value := List.replicate 512 (.int .u8 0)
theorem zP_is (w : World) : (zeroValue 37).run Tryz.prog w = .ok (.agg zP.toArray) w := by kernel_rfl
def partP (X : Pg) (i : Nat) : Pg := X.take (128 * i) ++ List.replicate (512 - 128 * i) 0
theorem partP_0 (X : Pg) : bv (partP X 0) = zP := by
  rw [partP, Nat.mul_zero, List.take_zero, List.nil_append, bv, List.map_replicate]
  rfl
theorem partP_4 {X : Pg} (h : X.length = 512) : partP X 4 = X := by
  rw [partP, List.take_of_length_le (by omega), show 512 - 128 * 4 = 0 from rfl, List.replicate_zero, List.append_nil]
theorem partP_len {X : Pg} (h : X.length = 512) {i : Nat} (hi : i ≤ 4) : (partP X i).length = 512 := by
  rw [partP, List.length_append, List.length_take, List.length_replicate]; omega
theorem partP_step {X S : Pg} (h : X.length = 512) {i : Nat} (hi : i < 4) (hS : (X.drop (128 * i)).take 128 = S) : splice (bv (partP X i)) (128 * i) (bv S) = bv (partP X (i + 1)) := by
  have hl : (X.take (128 * i)).length = 128 * i := by rw [List.length_take]; omega
  have hSl : S.length = 128 := by rw [← hS, List.length_take, List.length_drop]; omega
  have e : splice (bv (partP X i)) (128 * i) (bv S) = bv ((partP X i).take (128 * i) ++ S ++ (partP X i).drop (128 * i + 128)) := by
    simp only [splice, bv, List.map_append, List.map_take, List.map_drop, List.length_map, hSl, List.append_assoc]
  have e2 : (X.take (128 * i) ++ List.replicate (512 - 128 * i) (0 : UInt8)).drop (128 * i + 128) = List.replicate (512 - (128 * i + 128)) 0 := by
    rw [List.drop_append, hl, List.drop_of_length_le (by rw [hl]; omega), List.nil_append, List.drop_replicate, show 512 - 128 * i - (128 * i + 128 - 128 * i) = 512 - (128 * i + 128) by omega]
  rw [e, partP, List.take_left' hl, e2, partP, show 128 * (i + 1) = 128 * i + 128 by omega, List.take_add, hS]
section
variable {Y : World → List Nat → Prop} [Thing Y] {g x q mc md lo : Nat} {rv cv : Value} {L : List Nat} {P : Pl} {w : World}
set_option maxRecDepth 20000 in
theorem committedD (h : PlAt g x q mc md cv cv Y lo L P w) (hok : PlOk P) (n : Nat) (hn : n < P.n) {b : Pg} (hb : P.di n = some b) :
    Calls Tryz.prog 35 [.pointer (some ⟨q, 0, none⟩), .int .i64 (n : Int)].toArray w (Ret fun v w' => v = .tuple #[.agg (bv b).toArray, .int .i64 0] ∧ (∃ cv', PlAt g x q mc md cv' cv' Y lo L P w') ∧ LoL lo L w w') := by
  have hLL := LoL.refl lo L w
  have hnl := h.nle.1
  have hbl : (bv b).length = 512 := by rw [bv_length]; exact hok.di n b hb
  have hmv : mapV P.di n = some (.agg (bv b).toArray) := by unfold mapV; rw [hb]; rfl
  have hq := h.row
  unfold plV at hq
  have hd := h.mdi
  have hz : zP.length = 512 := List.length_replicate
  have hz1 : ∀ v ∈ zP, Value.oneCell' v = true := fun v hv => by rw [(List.mem_replicate.1 hv).2]; rfl
  refine calls_W (fn := Tryz.f35) (rs := [.cell 4 37, .tmp 5]) (n := 80) Tryz.func35 rfl rfl Tryz.ntmps35 (by kernel_rfl) rfl ?_
  refine W_seq ?_
  refine W_region ?_
  refine WR_mk rfl (mk_box ([_]) rfl (fun g3 w3 hg3 hr3 hb3 => ?_))
  have lt_q_g3 : q < g3 := Nat.lt_of_lt_of_le hq.lt hg3
  have lt_md_g3 : md < g3 := Nat.lt_of_lt_of_le hd.lt hg3
  replace h := h.newc hb3 hg3 hr3.lt
  replace hLL := hLL.new hb3
  replace hq := hq.new hb3
  replace hd := hd.new hb3
  refine WR_mk rfl (mk_alloc (List.replicate 512 (Value.int .u8 0)) (by kernel_rfl) (fun g4 w4 hg4 hr4 hb4 => ?_))
  have lt_q_g4 : q < g4 := Nat.lt_of_lt_of_le hq.lt hg4
  have lt_md_g4 : md < g4 := Nat.lt_of_lt_of_le hd.lt hg4
  have lt_g3_g4 : g3 < g4 := Nat.lt_of_lt_of_le hr3.lt hg4
  replace h := h.newc hb4 hg4 hr4.lt
  replace hLL := hLL.new hb4
  replace hq := hq.new hb4
  replace hd := hd.new hb4
  replace hr3 := hr3.new hb4
  refine WR_val rfl (rn_assign) ?_
  refine WR_nil ?_
  refine thenN ?_
  refine W_seq ?_
  refine W_seq ?_
  refine W_draw' [] (by kernel_rfl) ?_
  intro w901 hb901 hS901
  replace h := h.new hb901
  replace hLL := hLL.new hb901
  replace hq := hq.new hb901
  replace hd := hd.new hb901
  replace hr3 := hr3.new hb901
  replace hr4 := hr4.new hb901
  have h_d901 := h
  have hLL_d901 := hLL
  have hq_d901 := hq
  have hd_d901 := hd
  have hr3_d901 := hr3
  have hr4_d901 := hr4
  refine WA_take 0 (by kernel_rfl) rfl (fun _ _ => rn_move) ?_
  refine WA_take 1 (by kernel_rfl) rfl (fun _ _ => rn_nilCheckP rfl) ?_
  refine WA_take 2 (by kernel_rfl) rfl (fun _ _ => rn_fieldAddr (off := 5) (by kernel_rfl) rfl) ?_
  refine WA_take 3 (by kernel_rfl) rfl (fun w' hS' => rn_load rfl (Ld.row1 (hq_d901.kpd hS' (by first | (simp; done) | (simp; omega) | (simp [*]; done) | exact notLL (Or.inl (by omega)) | exact notLL (Or.inr (by simp)) | exact fun g hm => Nat.le_trans (by omega) (inLL hm).1 | (intro b o e; cases e; exact notLL (Or.inl (by omega))) | (intro b hm; have := (hu.lt b (Option.mem_toList.1 hm)).1; omega) | (intro b o e; cases e; intro hm; have := (hu.lt _ (Option.mem_toList.1 hm)).1; omega))) (by kernel_rfl) rfl)) ?_
  refine WA_take 4 (by kernel_rfl) rfl (fun w' hS' => rn_load rfl (Ld.row1 (hr3_d901.kpd hS' (by first | (simp; done) | (simp; omega) | (simp [*]; done) | exact notLL (Or.inl (by omega)) | exact notLL (Or.inr (by simp)) | exact fun g hm => Nat.le_trans (by omega) (inLL hm).1 | (intro b o e; cases e; exact notLL (Or.inl (by omega))) | (intro b hm; have := (hu.lt b (Option.mem_toList.1 hm)).1; omega) | (intro b o e; cases e; intro hm; have := (hu.lt _ (Option.mem_toList.1 hm)).1; omega))) (by kernel_rfl) rfl)) ?_
  refine WA_take 5 (by kernel_rfl) rfl (fun w' hS' => rn_lookupC (k := 3) (e := 37) (.agg zP.toArray) (some (.agg (bv b).toArray)) (by kernel_rfl) (by kernel_rfl) zP_is (hd_d901.kpd hS' (by first | (simp; done) | (simp; omega) | (simp [*]; done) | exact notLL (Or.inl (by omega)) | exact notLL (Or.inr (by simp)) | exact fun g hm => Nat.le_trans (by omega) (inLL hm).1 | (intro b o e; cases e; exact notLL (Or.inl (by omega))) | (intro b hm; have := (hu.lt b (Option.mem_toList.1 hm)).1; omega) | (intro b o e; cases e; intro hm; have := (hu.lt _ (Option.mem_toList.1 hm)).1; omega))) rfl rfl n rfl hn (by omega) hmv) ?_
  refine WA_take 6 (by kernel_rfl) rfl (fun _ _ => rn_move) ?_
  refine WA_take 7 (by kernel_rfl) rfl (fun _ _ => rn_extract rfl rfl) ?_
  refine WA_take 8 (by kernel_rfl) rfl (fun _ _ => rn_extract rfl rfl) ?_
  refine WA_one 9 (by kernel_rfl) ?_
  refine WO_mk rfl rfl (mk_alloc (List.replicate 512 (Value.int .u8 0)) (by kernel_rfl) (fun g6 w6 hg6 hr6 hb6 => ?_))
  have hS902 := hS901.add0 hb6
  refine ⟨hS902, ?_⟩
  have ge_hS901_g6 := Nat.le_trans hS901.size hg6
  have lt_q_g6 : q < g6 := Nat.lt_of_lt_of_le hq.lt hg6
  have lt_md_g6 : md < g6 := Nat.lt_of_lt_of_le hd.lt hg6
  have lt_g3_g6 : g3 < g6 := Nat.lt_of_lt_of_le hr3.lt hg6
  have lt_g4_g6 : g4 < g6 := Nat.lt_of_lt_of_le hr4.lt hg6
  replace h := h.newc hb6 hg6 hr6.lt
  replace hLL := hLL.new hb6
  replace hq := hq.new hb6
  replace hd := hd.new hb6
  replace hr3 := hr3.new hb6
  replace hr4 := hr4.new hb6
  refine WA_one 10 (by kernel_rfl) ?_
  refine WO_sk rfl rfl (sk_storeA 512 (bv b) rfl rfl hr6 (by kernel_rfl) (by first | assumption | (simp; done) | (simp [bv_length, *]; done)) (by first | assumption | (simp; done) | (simp [bv_length, *]; done) | rfl) (by first | exact bv_one _ | assumption | (simp [Value.oneCell']; done)) (fun w904 hr6 ho904 => ?_))
  have hS903 := hS902.add1 ho904 (by first | (left; omega) | (right; simp; done) | (right; simp; omega))
  refine ⟨hS903, ?_⟩
  replace h := h.only ho904 (by first | (right; simp; done) | (left; omega))
  replace hLL := hLL.only ho904 (by first | omega | (right; exact ⟨by omega, by assumption⟩))
  replace hq := hq.only ho904 (Nat.ne_of_lt lt_q_g6)
  replace hd := hd.only ho904 (Nat.ne_of_lt lt_md_g6)
  replace hr3 := hr3.only ho904 (Nat.ne_of_lt lt_g3_g6)
  replace hr4 := hr4.only ho904 (Nat.ne_of_lt lt_g4_g6)
  refine WA_take 11 (by kernel_rfl) rfl (fun _ _ => rn_assign) ?_
  refine WA_done (by kernel_rfl) ?_
  refine thenN ?_
  refine W_seq ?_
  refine W_region ?_
  refine WR_val rfl (rn_move) ?_
  refine WR_nil ?_
  refine thenN ?_
  refine W_tb rfl (rfl) ?_
  refine W_seq ?_
  refine W_region ?_
  refine WR_val rfl (rn_load rfl (Ld.rowA (k := 512) hr6 (by kernel_rfl) (by kernel_rfl) (by first | (simp; done) | (simp [bv_length, *]; done) | assumption))) ?_
  refine WR_sk rfl (sk_storeA 512 (bv b) rfl rfl hr4 (by kernel_rfl) (by first | assumption | (simp; done) | (simp [bv_length, *]; done)) (by first | assumption | (simp; done) | (simp [bv_length, *]; done) | rfl) (by first | exact bv_one _ | assumption | (simp [Value.oneCell']; done)) (fun w905 hr4 ho905 => ?_))
  replace h := h.only ho905 (by first | (right; simp; done) | (left; omega))
  replace hLL := hLL.only ho905 (by first | omega | (right; exact ⟨by omega, by assumption⟩))
  replace hq := hq.only ho905 (Nat.ne_of_lt lt_q_g4)
  replace hd := hd.only ho905 (Nat.ne_of_lt lt_md_g4)
  replace hr3 := hr3.only ho905 (Nat.ne_of_lt lt_g3_g4)
  replace hr6 := hr6.only ho905 (Nat.ne_of_gt lt_g4_g6)
  refine WR_val rfl (rn_assign) ?_
  refine WR_nil ?_
  refine thenN ?_
  refine W_ret ?_
  refine thenR ?_
  refine ret_ret [_, _] ⟨⟨_, rfl, Ld.rowA (k := 512) hr4 (by kernel_rfl) (by kernel_rfl) (by first | (simp; done) | (simp [bv_length, *]; done) | assumption)⟩, rfl, trivial⟩ ?_
  exact ⟨rfl, ⟨_, h.weak (fun b hb => by simp [hb])⟩, hLL⟩
set_option maxRecDepth 20000 in
theorem committedC (h : PlAt g x q mc md cv cv Y lo L P w) (hok : PlOk P) (n : Nat) (hn : n < P.n) (hb : P.di n = none) {c : Ch} (hc : P.cl[idxC P.cl n]? = some c) :
    Calls Tryz.prog 35 [.pointer (some ⟨q, 0, none⟩), .int .i64 (n : Int)].toArray w (Ret fun v w' => v = .tuple #[.agg (bv c.page).toArray, .int .i64 0] ∧ (∃ cv', PlAt g x q mc md cv' cv' Y lo L { P with cl := frameC P.fr P.cl n c.page } w') ∧ LoL lo L w w') := by
  have hLL := LoL.refl lo L w
  have hnl := h.nle.1
  have hil := (List.getElem?_eq_some_iff.1 hc).1
  have hcl := hok.cl c (List.mem_of_getElem? hc)
  have hbl : (bv c.page).length = 512 := by rw [bv_length]; exact hcl
  have hmv : mapV P.di n = none := by unfold mapV; rw [hb]; rfl
  have hq := h.row
  unfold plV at hq
  have hd := h.mdi
  have hz : zP.length = 512 := List.length_replicate
  have hz1 : ∀ v ∈ zP, Value.oneCell' v = true := fun v hv => by rw [(List.mem_replicate.1 hv).2]; rfl
  have hix := fun p cc w' (h : SlAt w' p P.cl.length 513 (chsV P.cl)) b (hb : row w' b [.int .i64 (n : Int)] 3) => indexA P.cl hok.cl p cc P.cl.length rfl b n w' h hb
  simp only [if_pos hil] at hix
  obtain ⟨gc, oc, cc, hcv, hown0⟩ := h.ownIs (by omega)
  subst hcv
  refine calls_W (fn := Tryz.f35) (rs := [.cell 4 37, .tmp 5]) (n := 80) Tryz.func35 rfl rfl Tryz.ntmps35 (by kernel_rfl) rfl ?_
  refine W_seq ?_
  refine W_region ?_
  refine WR_mk rfl (mk_box ([_]) rfl (fun g3 w3 hg3 hr3 hb3 => ?_))
  have lt_q_g3 : q < g3 := Nat.lt_of_lt_of_le hq.lt hg3
  have lt_md_g3 : md < g3 := Nat.lt_of_lt_of_le hd.lt hg3
  replace h := h.newc hb3 hg3 hr3.lt
  replace hLL := hLL.new hb3
  replace hq := hq.new hb3
  replace hd := hd.new hb3
  refine WR_mk rfl (mk_alloc (List.replicate 512 (Value.int .u8 0)) (by kernel_rfl) (fun g4 w4 hg4 hr4 hb4 => ?_))
  have lt_q_g4 : q < g4 := Nat.lt_of_lt_of_le hq.lt hg4
  have lt_md_g4 : md < g4 := Nat.lt_of_lt_of_le hd.lt hg4
  have lt_g3_g4 : g3 < g4 := Nat.lt_of_lt_of_le hr3.lt hg4
  replace h := h.newc hb4 hg4 hr4.lt
  replace hLL := hLL.new hb4
  replace hq := hq.new hb4
  replace hd := hd.new hb4
  replace hr3 := hr3.new hb4
  refine WR_val rfl (rn_assign) ?_
  refine WR_nil ?_
  refine thenN ?_
  refine W_seq ?_
  refine W_seq ?_
  refine W_draw' [] (by kernel_rfl) ?_
  intro w901 hb901 hS901
  replace h := h.new hb901
  replace hLL := hLL.new hb901
  replace hq := hq.new hb901
  replace hd := hd.new hb901
  replace hr3 := hr3.new hb901
  replace hr4 := hr4.new hb901
  have h_d901 := h
  have hLL_d901 := hLL
  have hq_d901 := hq
  have hd_d901 := hd
  have hr3_d901 := hr3
  have hr4_d901 := hr4
  refine WA_take 0 (by kernel_rfl) rfl (fun _ _ => rn_move) ?_
  refine WA_take 1 (by kernel_rfl) rfl (fun _ _ => rn_nilCheckP rfl) ?_
  refine WA_take 2 (by kernel_rfl) rfl (fun _ _ => rn_fieldAddr (off := 5) (by kernel_rfl) rfl) ?_
  refine WA_take 3 (by kernel_rfl) rfl (fun w' hS' => rn_load rfl (Ld.row1 (hq_d901.kpd hS' (by first | (simp; done) | (simp; omega) | (simp [*]; done) | exact notLL (Or.inl (by omega)) | exact notLL (Or.inr (by simp)) | exact fun g hm => Nat.le_trans (by omega) (inLL hm).1 | (intro b o e; cases e; exact notLL (Or.inl (by omega))) | (intro b hm; have := (hu.lt b (Option.mem_toList.1 hm)).1; omega) | (intro b o e; cases e; intro hm; have := (hu.lt _ (Option.mem_toList.1 hm)).1; omega))) (by kernel_rfl) rfl)) ?_
  refine WA_take 4 (by kernel_rfl) rfl (fun w' hS' => rn_load rfl (Ld.row1 (hr3_d901.kpd hS' (by first | (simp; done) | (simp; omega) | (simp [*]; done) | exact notLL (Or.inl (by omega)) | exact notLL (Or.inr (by simp)) | exact fun g hm => Nat.le_trans (by omega) (inLL hm).1 | (intro b o e; cases e; exact notLL (Or.inl (by omega))) | (intro b hm; have := (hu.lt b (Option.mem_toList.1 hm)).1; omega) | (intro b o e; cases e; intro hm; have := (hu.lt _ (Option.mem_toList.1 hm)).1; omega))) (by kernel_rfl) rfl)) ?_
  refine WA_take 5 (by kernel_rfl) rfl (fun w' hS' => rn_lookupC (k := 3) (e := 37) (.agg zP.toArray) none (by kernel_rfl) (by kernel_rfl) zP_is (hd_d901.kpd hS' (by first | (simp; done) | (simp; omega) | (simp [*]; done) | exact notLL (Or.inl (by omega)) | exact notLL (Or.inr (by simp)) | exact fun g hm => Nat.le_trans (by omega) (inLL hm).1 | (intro b o e; cases e; exact notLL (Or.inl (by omega))) | (intro b hm; have := (hu.lt b (Option.mem_toList.1 hm)).1; omega) | (intro b o e; cases e; intro hm; have := (hu.lt _ (Option.mem_toList.1 hm)).1; omega))) rfl rfl n rfl hn (by omega) hmv) ?_
  refine WA_take 6 (by kernel_rfl) rfl (fun _ _ => rn_move) ?_
  refine WA_take 7 (by kernel_rfl) rfl (fun _ _ => rn_extract rfl rfl) ?_
  refine WA_take 8 (by kernel_rfl) rfl (fun _ _ => rn_extract rfl rfl) ?_
  refine WA_one 9 (by kernel_rfl) ?_
  refine WO_mk rfl rfl (mk_alloc (List.replicate 512 (Value.int .u8 0)) (by kernel_rfl) (fun g6 w6 hg6 hr6 hb6 => ?_))
  have hS902 := hS901.add0 hb6
  refine ⟨hS902, ?_⟩
  have ge_hS901_g6 := Nat.le_trans hS901.size hg6
  have lt_q_g6 : q < g6 := Nat.lt_of_lt_of_le hq.lt hg6
  have lt_md_g6 : md < g6 := Nat.lt_of_lt_of_le hd.lt hg6
  have lt_g3_g6 : g3 < g6 := Nat.lt_of_lt_of_le hr3.lt hg6
  have lt_g4_g6 : g4 < g6 := Nat.lt_of_lt_of_le hr4.lt hg6
  replace h := h.newc hb6 hg6 hr6.lt
  replace hLL := hLL.new hb6
  replace hq := hq.new hb6
  replace hd := hd.new hb6
  replace hr3 := hr3.new hb6
  replace hr4 := hr4.new hb6
  refine WA_one 10 (by kernel_rfl) ?_
  refine WO_sk rfl rfl (sk_storeA 512 (zP) rfl rfl hr6 (by kernel_rfl) (by first | assumption | (simp; done) | (simp [bv_length, *]; done)) (by first | assumption | (simp; done) | (simp [bv_length, *]; done) | rfl) (by first | exact bv_one _ | assumption | (simp [Value.oneCell']; done)) (fun w904 hr6 ho904 => ?_))
  have hS903 := hS902.add1 ho904 (by first | (left; omega) | (right; simp; done) | (right; simp; omega))
  refine ⟨hS903, ?_⟩
  replace h := h.only ho904 (by first | (right; simp; done) | (left; omega))
  replace hLL := hLL.only ho904 (by first | omega | (right; exact ⟨by omega, by assumption⟩))
  replace hq := hq.only ho904 (Nat.ne_of_lt lt_q_g6)
  replace hd := hd.only ho904 (Nat.ne_of_lt lt_md_g6)
  replace hr3 := hr3.only ho904 (Nat.ne_of_lt lt_g3_g6)
  replace hr4 := hr4.only ho904 (Nat.ne_of_lt lt_g4_g6)
  refine WA_take 11 (by kernel_rfl) rfl (fun _ _ => rn_assign) ?_
  refine WA_done (by kernel_rfl) ?_
  refine thenN ?_
  refine W_seq ?_
  refine W_region ?_
  refine WR_val rfl (rn_move) ?_
  refine WR_nil ?_
  refine thenN ?_
  refine W_fb rfl (rfl) ?_
  refine W_skip ?_
  refine thenN ?_
  refine W_seq ?_
  refine W_seq ?_
  refine W_region ?_
  refine WR_val rfl (rn_move) ?_
  refine WR_val rfl (rn_nilCheckP rfl) ?_
  refine WR_val rfl (rn_fieldAddr (off := 6) (by kernel_rfl) rfl) ?_
  refine WR_val rfl (rn_load rfl (Ld.row1 hq (by kernel_rfl) rfl)) ?_
  refine WR_val rfl (rn_makeFunc) ?_
  refine WR_ent rfl (rn_call (by kernel_rfl) rfl) (hix _ _ w904 h.own.sl _ hr3) ?_
  rintro _ w28 ⟨rfl, hb28⟩
  replace h := h.new hb28
  replace hLL := hLL.new hb28
  replace hq := hq.new hb28
  replace hd := hd.new hb28
  replace hr3 := hr3.new hb28
  replace hr4 := hr4.new hb28
  replace hr6 := hr6.new hb28
  refine WR_val rfl (rn_assign) ?_
  refine WR_nil ?_
  refine thenN ?_
  refine W_seq ?_
  refine W_region ?_
  refine WR_val rfl (rn_move) ?_
  refine WR_val rfl (rn_geq rfl rfl) ?_
  refine WR_nil ?_
  refine thenN ?_
  refine W_tp rfl ((by omega)) ?_
  refine W_seq ?_
  refine W_region ?_
  refine WR_val rfl (rn_move) ?_
  refine WR_val rfl (rn_nilCheckP rfl) ?_
  refine WR_val rfl (rn_fieldAddr (off := 6) (by kernel_rfl) rfl) ?_
  refine WR_val rfl (rn_load rfl (Ld.row1 hq (by kernel_rfl) rfl)) ?_
  refine WR_val rfl (rn_move) ?_
  refine WR_val rfl (rn_indexSl (e := 73) (sz := 513) (by kernel_rfl) rfl rfl (idxC P.cl n) (by omega) (by omega)) ?_
  refine WR_val rfl (rn_fieldAddr (off := 1) (by kernel_rfl) rfl) ?_
  refine WR_val rfl (rn_load rfl (ld_pg h.own.sl hok.cl hc)) ?_
  refine WR_sk rfl (sk_storeA 512 (bv c.page) rfl rfl hr4 (by kernel_rfl) (by first | assumption | (simp; done) | (simp [bv_length, *]; done)) (by first | assumption | (simp; done) | (simp [bv_length, *]; done) | rfl) (by first | exact bv_one _ | assumption | (simp [Value.oneCell']; done)) (fun w905 hr4 ho905 => ?_))
  replace h := h.only ho905 (by first | (right; simp; done) | (left; omega))
  replace hLL := hLL.only ho905 (by first | omega | (right; exact ⟨by omega, by assumption⟩))
  replace hq := hq.only ho905 (Nat.ne_of_lt lt_q_g4)
  replace hd := hd.only ho905 (Nat.ne_of_lt lt_md_g4)
  replace hr3 := hr3.only ho905 (Nat.ne_of_lt lt_g3_g4)
  replace hr6 := hr6.only ho905 (Nat.ne_of_gt lt_g4_g6)
  refine WR_nil ?_
  refine thenN ?_
  refine W_seq ?_
  refine W_region ?_
  refine WR_val rfl (rn_move) ?_
  refine WR_val rfl (rn_load rfl (Ld.row1 hr3 (by kernel_rfl) rfl)) ?_
  refine WR_val rfl (rn_load rfl (Ld.rowA (k := 512) hr4 (by kernel_rfl) (by kernel_rfl) (by first | (simp; done) | (simp [bv_length, *]; done) | assumption))) ?_
  refine WR_ent rfl (rn_call (by kernel_rfl) rfl) (frameP h hok.cl hok.cll hok.fr2 hok.frm n c.page hcl) ?_
  rintro _ w42 ⟨rfl, ⟨cv2, h⟩, hb42⟩
  replace hLL := hLL.ll hb42 (by first | (intro b hb; exact hb) | (intro b hb; simp [hb]; done) | simp)
  replace hr3 := hr3.kpd hb42.kp (by first | (refine notLL ?_; left; omega) | (refine notLL ?_; right; simp; done) | (intro b o e; cases e; first | (refine notLL ?_; left; omega) | (refine notLL ?_; right; simp; done) | (refine notLL ?_; right; simp [*]; done)) | (intro b hb; refine notLL ?_; left; omega) | (intro b hb e; cases e; exact notLL (by right; simp [*]) hb))
  replace hr4 := hr4.kpd hb42.kp (by first | (refine notLL ?_; left; omega) | (refine notLL ?_; right; simp; done) | (intro b o e; cases e; first | (refine notLL ?_; left; omega) | (refine notLL ?_; right; simp; done) | (refine notLL ?_; right; simp [*]; done)) | (intro b hb; refine notLL ?_; left; omega) | (intro b hb e; cases e; exact notLL (by right; simp [*]) hb))
  refine WR_nil ?_
  refine thenN ?_
  refine W_seq ?_
  refine W_region ?_
  refine WR_val rfl (rn_load rfl (Ld.rowA (k := 512) hr4 (by kernel_rfl) (by kernel_rfl) (by first | (simp; done) | (simp [bv_length, *]; done) | assumption))) ?_
  refine WR_sk rfl (sk_storeA 512 (bv c.page) rfl rfl hr4 (by kernel_rfl) (by first | assumption | (simp; done) | (simp [bv_length, *]; done)) (by first | assumption | (simp; done) | (simp [bv_length, *]; done) | rfl) (by first | exact bv_one _ | assumption | (simp [Value.oneCell']; done)) (fun w906 hr4 ho906 => ?_))
  replace h := h.only ho906 (by first | (right; simp; done) | (left; omega))
  replace hLL := hLL.only ho906 (by first | omega | (right; exact ⟨by omega, by assumption⟩))
  replace hr3 := hr3.only ho906 (Nat.ne_of_lt lt_g3_g4)
  refine WR_val rfl (rn_assign) ?_
  refine WR_nil ?_
  refine thenN ?_
  refine W_ret ?_
  refine thenR ?_
  refine ret_ret [_, _] ⟨⟨_, rfl, Ld.rowA (k := 512) hr4 (by kernel_rfl) (by kernel_rfl) (by first | (simp; done) | (simp [bv_length, *]; done) | assumption)⟩, rfl, trivial⟩ ?_
  exact ⟨rfl, ⟨_, h.weak (fun b hb => by simp [hb])⟩, hLL⟩
set_option maxRecDepth 20000 in
theorem committedR (h : PlAt g x q mc md cv cv Y lo L P w) (hok : PlOk P) (n : Nat) (hn : n < P.n) (hb : P.di n = none) (hc : P.cl[idxC P.cl n]? = none) :
    Calls Tryz.prog 35 [.pointer (some ⟨q, 0, none⟩), .int .i64 (n : Int)].toArray w (Ret fun v w' => v = .tuple #[.agg (bv (pageD P.D (1 + P.G.size + n * 4))).toArray, .int .i64 0] ∧ (∃ cv', PlAt g x q mc md cv' cv' Y lo L { P with cl := frameC P.fr P.cl n (pageD P.D (1 + P.G.size + n * 4)) } w') ∧ LoL lo L w w') := by
  have hLL := LoL.refl lo L w
  have hnl := h.nle
  have hml : maxLen = 9223372036854775807 := by decide
  have hil := List.getElem?_eq_none_iff.1 hc
  have hmv : mapV P.di n = none := by unfold mapV; rw [hb]; rfl
  have hq := h.row
  unfold plV at hq
  have hd := h.mdi
  have hz : zP.length = 512 := List.length_replicate
  have hz1 : ∀ v ∈ zP, Value.oneCell' v = true := fun v hv => by rw [(List.mem_replicate.1 hv).2]; rfl
  have hix := fun p cc w' (h : SlAt w' p P.cl.length 513 (chsV P.cl)) b (hb : row w' b [.int .i64 (n : Int)] 3) => indexA P.cl hok.cl p cc P.cl.length rfl b n w' h hb
  simp only [if_neg (show ¬ idxC P.cl n < P.cl.length by omega)] at hix
  obtain ⟨hrm, hs4, hsm⟩ := n_room hok hn
  have hpl := fun w' => placeP P.G.size n w' hsm (by omega)
  obtain ⟨a, ha⟩ : ∃ a, 1 + P.G.size + n * 4 = a := ⟨_, rfl⟩
  rw [ha] at hpl hrm ⊢
  have hDk := (tOk h.lg.fst).1
  obtain ⟨hXl, hXs⟩ := pageD_part hDk hrm
  have hrd := fun (i : Nat) (hi : i < 4) L' w' (h' : PlAt g x q mc md cv cv Y lo L' P w') => tRead h'.lg.fst ((a : Int) + (i : Int))
  obtain ⟨pc, cc, hcv, hcs⟩ := h.cvIs
  subst hcv
  obtain ⟨X, hX⟩ : ∃ X, pageD P.D a = X := ⟨_, rfl⟩
  rw [hX] at hXl hXs ⊢
  have hXb : (bv X).length = 512 := by rw [bv_length]; exact hXl
  refine calls_W (fn := Tryz.f35) (rs := [.cell 4 37, .tmp 5]) (n := 80) Tryz.func35 rfl rfl Tryz.ntmps35 (by kernel_rfl) rfl ?_
  refine W_seq ?_
  refine W_region ?_
  refine WR_mk rfl (mk_box ([_]) rfl (fun g3 w3 hg3 hr3 hb3 => ?_))
  have lt_q_g3 : q < g3 := Nat.lt_of_lt_of_le hq.lt hg3
  have lt_md_g3 : md < g3 := Nat.lt_of_lt_of_le hd.lt hg3
  replace h := h.newc hb3 hg3 hr3.lt
  replace hLL := hLL.new hb3
  replace hq := hq.new hb3
  replace hd := hd.new hb3
  refine WR_mk rfl (mk_alloc (List.replicate 512 (Value.int .u8 0)) (by kernel_rfl) (fun g4 w4 hg4 hr4 hb4 => ?_))
  have lt_q_g4 : q < g4 := Nat.lt_of_lt_of_le hq.lt hg4
  have lt_md_g4 : md < g4 := Nat.lt_of_lt_of_le hd.lt hg4
  have lt_g3_g4 : g3 < g4 := Nat.lt_of_lt_of_le hr3.lt hg4
  replace h := h.newc hb4 hg4 hr4.lt
  replace hLL := hLL.new hb4
  replace hq := hq.new hb4
  replace hd := hd.new hb4
  replace hr3 := hr3.new hb4
  refine WR_val rfl (rn_assign) ?_
  refine WR_nil ?_
  refine thenN ?_
  refine W_seq ?_
  refine W_seq ?_
  refine W_draw' [] (by kernel_rfl) ?_
  intro w901 hb901 hS901
  replace h := h.new hb901
  replace hLL := hLL.new hb901
  replace hq := hq.new hb901
  replace hd := hd.new hb901
  replace hr3 := hr3.new hb901
  replace hr4 := hr4.new hb901
  have h_d901 := h
  have hLL_d901 := hLL
  have hq_d901 := hq
  have hd_d901 := hd
  have hr3_d901 := hr3
  have hr4_d901 := hr4
  refine WA_take 0 (by kernel_rfl) rfl (fun _ _ => rn_move) ?_
  refine WA_take 1 (by kernel_rfl) rfl (fun _ _ => rn_nilCheckP rfl) ?_
  refine WA_take 2 (by kernel_rfl) rfl (fun _ _ => rn_fieldAddr (off := 5) (by kernel_rfl) rfl) ?_
  refine WA_take 3 (by kernel_rfl) rfl (fun w' hS' => rn_load rfl (Ld.row1 (hq_d901.kpd hS' (by first | (simp; done) | (simp; omega) | (simp [*]; done) | exact notLL (Or.inl (by omega)) | exact notLL (Or.inr (by simp)) | exact fun g hm => Nat.le_trans (by omega) (inLL hm).1 | (intro b o e; cases e; exact notLL (Or.inl (by omega))) | (intro b hm; have := (hu.lt b (Option.mem_toList.1 hm)).1; omega) | (intro b o e; cases e; intro hm; have := (hu.lt _ (Option.mem_toList.1 hm)).1; omega))) (by kernel_rfl) rfl)) ?_
  refine WA_take 4 (by kernel_rfl) rfl (fun w' hS' => rn_load rfl (Ld.row1 (hr3_d901.kpd hS' (by first | (simp; done) | (simp; omega) | (simp [*]; done) | exact notLL (Or.inl (by omega)) | exact notLL (Or.inr (by simp)) | exact fun g hm => Nat.le_trans (by omega) (inLL hm).1 | (intro b o e; cases e; exact notLL (Or.inl (by omega))) | (intro b hm; have := (hu.lt b (Option.mem_toList.1 hm)).1; omega) | (intro b o e; cases e; intro hm; have := (hu.lt _ (Option.mem_toList.1 hm)).1; omega))) (by kernel_rfl) rfl)) ?_
  refine WA_take 5 (by kernel_rfl) rfl (fun w' hS' => rn_lookupC (k := 3) (e := 37) (.agg zP.toArray) none (by kernel_rfl) (by kernel_rfl) zP_is (hd_d901.kpd hS' (by first | (simp; done) | (simp; omega) | (simp [*]; done) | exact notLL (Or.inl (by omega)) | exact notLL (Or.inr (by simp)) | exact fun g hm => Nat.le_trans (by omega) (inLL hm).1 | (intro b o e; cases e; exact notLL (Or.inl (by omega))) | (intro b hm; have := (hu.lt b (Option.mem_toList.1 hm)).1; omega) | (intro b o e; cases e; intro hm; have := (hu.lt _ (Option.mem_toList.1 hm)).1; omega))) rfl rfl n rfl hn (by omega) hmv) ?_
  refine WA_take 6 (by kernel_rfl) rfl (fun _ _ => rn_move) ?_
  refine WA_take 7 (by kernel_rfl) rfl (fun _ _ => rn_extract rfl rfl) ?_
  refine WA_take 8 (by kernel_rfl) rfl (fun _ _ => rn_extract rfl rfl) ?_
  refine WA_one 9 (by kernel_rfl) ?_
  refine WO_mk rfl rfl (mk_alloc (List.replicate 512 (Value.int .u8 0)) (by kernel_rfl) (fun g6 w6 hg6 hr6 hb6 => ?_))
  have hS902 := hS901.add0 hb6
  refine ⟨hS902, ?_⟩
  have ge_hS901_g6 := Nat.le_trans hS901.size hg6
  have lt_q_g6 : q < g6 := Nat.lt_of_lt_of_le hq.lt hg6
  have lt_md_g6 : md < g6 := Nat.lt_of_lt_of_le hd.lt hg6
  have lt_g3_g6 : g3 < g6 := Nat.lt_of_lt_of_le hr3.lt hg6
  have lt_g4_g6 : g4 < g6 := Nat.lt_of_lt_of_le hr4.lt hg6
  replace h := h.newc hb6 hg6 hr6.lt
  replace hLL := hLL.new hb6
  replace hq := hq.new hb6
  replace hd := hd.new hb6
  replace hr3 := hr3.new hb6
  replace hr4 := hr4.new hb6
  refine WA_one 10 (by kernel_rfl) ?_
  refine WO_sk rfl rfl (sk_storeA 512 (zP) rfl rfl hr6 (by kernel_rfl) (by first | assumption | (simp; done) | (simp [bv_length, *]; done)) (by first | assumption | (simp; done) | (simp [bv_length, *]; done) | rfl) (by first | exact bv_one _ | assumption | (simp [Value.oneCell']; done)) (fun w904 hr6 ho904 => ?_))
  have hS903 := hS902.add1 ho904 (by first | (left; omega) | (right; simp; done) | (right; simp; omega))
  refine ⟨hS903, ?_⟩
  replace h := h.only ho904 (by first | (right; simp; done) | (left; omega))
  replace hLL := hLL.only ho904 (by first | omega | (right; exact ⟨by omega, by assumption⟩))
  replace hq := hq.only ho904 (Nat.ne_of_lt lt_q_g6)
  replace hd := hd.only ho904 (Nat.ne_of_lt lt_md_g6)
  replace hr3 := hr3.only ho904 (Nat.ne_of_lt lt_g3_g6)
  replace hr4 := hr4.only ho904 (Nat.ne_of_lt lt_g4_g6)
  refine WA_take 11 (by kernel_rfl) rfl (fun _ _ => rn_assign) ?_
  refine WA_done (by kernel_rfl) ?_
  refine thenN ?_
  refine W_seq ?_
  refine W_region ?_
  refine WR_val rfl (rn_move) ?_
  refine WR_nil ?_
  refine thenN ?_
  refine W_fb rfl (rfl) ?_
  refine W_skip ?_
  refine thenN ?_
  refine W_seq ?_
  refine W_seq ?_
  refine W_region ?_
  refine WR_val rfl (rn_move) ?_
  refine WR_val rfl (rn_nilCheckP rfl) ?_
  refine WR_val rfl (rn_fieldAddr (off := 6) (by kernel_rfl) rfl) ?_
  refine WR_val rfl (rn_load rfl (Ld.row1 hq (by kernel_rfl) rfl)) ?_
  refine WR_val rfl (rn_makeFunc) ?_
  refine WR_ent rfl (rn_call (by kernel_rfl) rfl) (hix _ _ w904 h.own.sl _ hr3) ?_
  rintro _ w28 ⟨rfl, hb28⟩
  replace h := h.new hb28
  replace hLL := hLL.new hb28
  replace hq := hq.new hb28
  replace hd := hd.new hb28
  replace hr3 := hr3.new hb28
  replace hr4 := hr4.new hb28
  replace hr6 := hr6.new hb28
  refine WR_val rfl (rn_assign) ?_
  refine WR_nil ?_
  refine thenN ?_
  refine W_seq ?_
  refine W_region ?_
  refine WR_val rfl (rn_move) ?_
  refine WR_val rfl (rn_geq rfl rfl) ?_
  refine WR_nil ?_
  refine thenN ?_
  refine W_fp rfl ((by omega)) ?_
  refine W_skip ?_
  refine thenN ?_
  refine W_seq ?_
  refine W_seq ?_
  refine W_region ?_
  refine WR_val rfl (rn_move) ?_
  refine WR_nil ?_
  refine thenN ?_
  refine W_block ?_
  have hr4z : row w28 g4 (bv (partP X 0)) 37 := by rw [partP_0]; exact hr4
  refine W_loop (α := Nat) 0 (fun i => [(44, .int .i64 (i : Nat)), (0, .pointer (some ⟨q, 0, none⟩)), (3, .pointer (some ⟨g3, 0, none⟩)), (4, .pointer (some ⟨g4, 0, none⟩))])
    (fun i w' => i ≤ 4 ∧ row w' g4 (bv (partP X i)) 37 ∧ row w' g3 [.int .i64 (n : Int)] 3 ∧ PlAt g x q mc md (.slice pc P.cl.length cc) (.slice pc P.cl.length cc) Y lo (g4 :: g3 :: L) P w' ∧ LoL lo L w w') (fun i => 4 - i)
    ⟨rfl, rfl, rfl, rfl, rfl⟩ ⟨Nat.zero_le _, hr4z, hr3, h.weak (fun b hb => by simp at hb; simp [hb]), hLL⟩ ?_
  clear h hLL hq hd hr3 hr4 hr4z
  rintro i f wr ⟨hi, hr4, hr3, h, hLL⟩
  have hq := h.row
  unfold plV at hq
  refine W_seq ?_
  refine W_region ?_
  refine WR_val rfl (rn_lss rfl rfl) ?_
  refine WR_nil ?_
  refine thenN ?_
  refine W_seq ?_
  refine W_ifp rfl (fun hlt => ?_) (fun hlt => ?_)
  ·
    refine W_skip ?_
    refine thenN ?_
    refine W_seq ?_
    refine W_block ?_
    refine W_seq ?_
    have hobS : ∃ S, (X.drop (128 * i)).take 128 = S := ⟨_, rfl⟩
    obtain ⟨S, hS⟩ := hobS
    have hin : inD P.D ((a : Int) + (i : Int)) = true := decide_eq_true (by omega)
    have hrdi := hrd i (by omega)
    rw [hin, if_pos rfl, if_pos rfl, show ((a : Int) + (i : Int)).toNat = a + i by omega, ← hXs i (by omega), hS] at hrdi
    have hSl : S.length = 128 := by rw [← hS, List.length_take, List.length_drop]; omega
    have hSb : (bv S).length = 128 := by rw [bv_length]; exact hSl
    have hst := partP_step hXl (by omega) hS
    have hpb := partP_len hXl (i := i) (by omega)
    have hpb2 : (bv (partP X i)).length = 512 := by rw [bv_length]; exact hpb
    have hg3l := hr3.lt
    have hg4l := hr4.lt
    refine W_region ?_
    refine WR_val rfl (rn_move) ?_
    refine WR_val rfl (rn_assign) ?_
    refine WR_nil ?_
    refine thenN ?_
    refine W_cut (fun g10 : Nat => [(44, .int .i64 (i : Nat)), (9, .int .i64 (i : Nat)), (10, .pointer (some ⟨g10, 0, none⟩)), (11, .int .i64 0), (0, .pointer (some ⟨q, 0, none⟩)), (3, .pointer (some ⟨g3, 0, none⟩)), (4, .pointer (some ⟨g4, 0, none⟩))]) (fun g10 w' => row w' g10 (bv S) 94 ∧ row w' g4 (bv (partP X i)) 37 ∧ row w' g3 [.int .i64 (n : Int)] 3 ∧ PlAt g x q mc md (.slice pc P.cl.length cc) (.slice pc P.cl.length cc) Y lo (g10 :: g4 :: g3 :: L) P w' ∧ LoL lo L w w' ∧ g4 < g10 ∧ g3 < g10) ?_ ?_
    ·
      refine W_draw' [] (by kernel_rfl) ?_
      intro w905 hb905 hS905
      replace h := h.new hb905
      replace hLL := hLL.new hb905
      replace hq := hq.new hb905
      replace hr3 := hr3.new hb905
      replace hr4 := hr4.new hb905
      have h_d905 := h
      have hLL_d905 := hLL
      have hq_d905 := hq
      have hr3_d905 := hr3
      have hr4_d905 := hr4
      refine WA_take 0 (by kernel_rfl) rfl (fun _ _ => rn_move) ?_
      refine WA_take 1 (by kernel_rfl) rfl (fun _ _ => rn_nilCheckP rfl) ?_
      refine WA_take 2 (by kernel_rfl) rfl (fun _ _ => rn_fieldAddr (off := 0) (by kernel_rfl) rfl) ?_
      refine WA_take 3 (by kernel_rfl) rfl (fun w' hS' => rn_load rfl (Ld.row1 (hq_d905.kpd hS' (by first | (simp; done) | (simp; omega) | (simp [*]; done) | exact notLL (Or.inl (by omega)) | exact notLL (Or.inr (by simp)) | exact fun g hm => Nat.le_trans (by omega) (inLL hm).1 | (intro b o e; cases e; exact notLL (Or.inl (by omega))) | (intro b hm; have := (hu.lt b (Option.mem_toList.1 hm)).1; omega) | (intro b o e; cases e; intro hm; have := (hu.lt _ (Option.mem_toList.1 hm)).1; omega))) (by kernel_rfl) rfl)) ?_
      refine WA_take 4 (by kernel_rfl) rfl (fun _ _ => rn_move) ?_
      refine WA_take 5 (by kernel_rfl) rfl (fun _ _ => rn_nilCheckP rfl) ?_
      refine WA_take 6 (by kernel_rfl) rfl (fun _ _ => rn_fieldAddr (off := 2) (by kernel_rfl) rfl) ?_
      refine WA_take 7 (by kernel_rfl) rfl (fun w' hS' => rn_load rfl (Ld.row1 (hq_d905.kpd hS' (by first | (simp; done) | (simp; omega) | (simp [*]; done) | exact notLL (Or.inl (by omega)) | exact notLL (Or.inr (by simp)) | exact fun g hm => Nat.le_trans (by omega) (inLL hm).1 | (intro b o e; cases e; exact notLL (Or.inl (by omega))) | (intro b hm; have := (hu.lt b (Option.mem_toList.1 hm)).1; omega) | (intro b o e; cases e; intro hm; have := (hu.lt _ (Option.mem_toList.1 hm)).1; omega))) (by kernel_rfl) rfl)) ?_
      refine WA_take 8 (by kernel_rfl) rfl (fun w' hS' => rn_load rfl (Ld.row1 (hr3_d905.kpd hS' (by first | (simp; done) | (simp; omega) | (simp [*]; done) | exact notLL (Or.inl (by omega)) | exact notLL (Or.inr (by simp)) | exact fun g hm => Nat.le_trans (by omega) (inLL hm).1 | (intro b o e; cases e; exact notLL (Or.inl (by omega))) | (intro b hm; have := (hu.lt b (Option.mem_toList.1 hm)).1; omega) | (intro b o e; cases e; intro hm; have := (hu.lt _ (Option.mem_toList.1 hm)).1; omega))) (by kernel_rfl) rfl)) ?_
      refine WA_call 9 (by kernel_rfl) rfl (fun _ => rn_call (by kernel_rfl) rfl) (fun w' hS' => hpl w') ?_
      refine WA_take 10 (by kernel_rfl) rfl (fun _ _ => rn_move) ?_
      refine WA_take 11 (by kernel_rfl) rfl (fun _ _ => rn_add rfl rfl (Coup.w64 (by omega))) ?_
      refine WA_two 12 16 (by kernel_rfl) ?_ ?_
      ·
        refine WO_ent rfl rfl (rn_call (by kernel_rfl) rfl) (hrdi _ w905 h) ?_
        rintro _ w60 ⟨rfl, hb60⟩
        have hS906 := hS905.add0 hb60
        refine ⟨hS906, ?_⟩
        replace h := h.new hb60
        replace hLL := hLL.new hb60
        replace hq := hq.new hb60
        replace hr3 := hr3.new hb60
        replace hr4 := hr4.new hb60
        refine WA_take 13 (by kernel_rfl) rfl (fun _ _ => rn_move) ?_
        refine WA_take 14 (by kernel_rfl) rfl (fun _ _ => rn_extract rfl rfl) ?_
        refine WA_take 15 (by kernel_rfl) rfl (fun _ _ => rn_extract rfl rfl) ?_
        refine WA_one 16 (by kernel_rfl) ?_
        refine WO_mk rfl rfl (mk_alloc (List.replicate 128 (Value.int .u8 0)) (by kernel_rfl) (fun g10 w10 hg10 hr10 hb10 => ?_))
        have hS907 := hS906.add0 hb10
        refine ⟨hS907, ?_⟩
        have ge_hS906_g10 := Nat.le_trans hS906.size hg10
        have lt_q_g10 : q < g10 := Nat.lt_of_lt_of_le hq.lt hg10
        have lt_g3_g10 : g3 < g10 := Nat.lt_of_lt_of_le hr3.lt hg10
        have lt_g4_g10 : g4 < g10 := Nat.lt_of_lt_of_le hr4.lt hg10
        replace h := h.newc hb10 hg10 hr10.lt
        replace hLL := hLL.new hb10
        replace hq := hq.new hb10
        replace hr3 := hr3.new hb10
        replace hr4 := hr4.new hb10
        refine WA_one 17 (by kernel_rfl) ?_
        refine WO_sk rfl rfl (sk_storeA 128 (bv S) rfl rfl hr10 (by kernel_rfl) (by first | assumption | (simp; done) | (simp [bv_length, *]; done)) (by first | assumption | (simp; done) | (simp [bv_length, *]; done) | rfl) (by first | exact bv_one _ | assumption | (simp [Value.oneCell']; done)) (fun w909 hr10 ho909 => ?_))
        have hS908 := hS907.add1 ho909 (by first | (left; omega) | (right; simp; done) | (right; simp; omega))
        refine ⟨hS908, ?_⟩
        replace h := h.only ho909 (by first | (right; simp; done) | (left; omega))
        replace hLL := hLL.only ho909 (by first | omega | (right; exact ⟨by omega, by assumption⟩))
        replace hq := hq.only ho909 (Nat.ne_of_lt lt_q_g10)
        replace hr3 := hr3.only ho909 (Nat.ne_of_lt lt_g3_g10)
        replace hr4 := hr4.only ho909 (Nat.ne_of_lt lt_g4_g10)
        refine WA_take 18 (by kernel_rfl) rfl (fun _ _ => rn_assign) ?_
        refine WA_done (by kernel_rfl) ?_
        refine loopN ⟨g10, ⟨rfl, rfl, rfl, rfl, rfl, rfl, rfl, rfl⟩, hr10, hr4, hr3, h, hLL, by omega, by omega⟩
      ·
        refine WO_mk rfl rfl (mk_alloc (List.replicate 128 (Value.int .u8 0)) (by kernel_rfl) (fun g10 w10 hg10 hr10 hb10 => ?_))
        have hS910 := hS905.add0 hb10
        refine ⟨hS910, ?_⟩
        have ge_hS905_g10 := Nat.le_trans hS905.size hg10
        have lt_q_g10 : q < g10 := Nat.lt_of_lt_of_le hq.lt hg10
        have lt_g3_g10 : g3 < g10 := Nat.lt_of_lt_of_le hr3.lt hg10
        have lt_g4_g10 : g4 < g10 := Nat.lt_of_lt_of_le hr4.lt hg10
        replace h := h.newc hb10 hg10 hr10.lt
        replace hLL := hLL.new hb10
        replace hq := hq.new hb10
        replace hr3 := hr3.new hb10
        replace hr4 := hr4.new hb10
        refine WA_one 12 (by kernel_rfl) ?_
        refine WO_ent rfl rfl (rn_call (by kernel_rfl) rfl) (hrdi _ w10 h) ?_
        rintro _ w60 ⟨rfl, hb60⟩
        have hS911 := hS910.add0 hb60
        refine ⟨hS911, ?_⟩
        replace h := h.new hb60
        replace hLL := hLL.new hb60
        replace hq := hq.new hb60
        replace hr3 := hr3.new hb60
        replace hr4 := hr4.new hb60
        replace hr10 := hr10.new hb60
        refine WA_take 13 (by kernel_rfl) rfl (fun _ _ => rn_move) ?_
        refine WA_take 14 (by kernel_rfl) rfl (fun _ _ => rn_extract rfl rfl) ?_
        refine WA_take 15 (by kernel_rfl) rfl (fun _ _ => rn_extract rfl rfl) ?_
        refine WA_one 17 (by kernel_rfl) ?_
        refine WO_sk rfl rfl (sk_storeA 128 (bv S) rfl rfl hr10 (by kernel_rfl) (by first | assumption | (simp; done) | (simp [bv_length, *]; done)) (by first | assumption | (simp; done) | (simp [bv_length, *]; done) | rfl) (by first | exact bv_one _ | assumption | (simp [Value.oneCell']; done)) (fun w913 hr10 ho913 => ?_))
        have hS912 := hS911.add1 ho913 (by first | (left; omega) | (right; simp; done) | (right; simp; omega))
        refine ⟨hS912, ?_⟩
        replace h := h.only ho913 (by first | (right; simp; done) | (left; omega))
        replace hLL := hLL.only ho913 (by first | omega | (right; exact ⟨by omega, by assumption⟩))
        replace hq := hq.only ho913 (Nat.ne_of_lt lt_q_g10)
        replace hr3 := hr3.only ho913 (Nat.ne_of_lt lt_g3_g10)
        replace hr4 := hr4.only ho913 (Nat.ne_of_lt lt_g4_g10)
        refine WA_take 18 (by kernel_rfl) rfl (fun _ _ => rn_assign) ?_
        refine WA_done (by kernel_rfl) ?_
        refine loopN ⟨g10, ⟨rfl, rfl, rfl, rfl, rfl, rfl, rfl, rfl⟩, hr10, hr4, hr3, h, hLL, by omega, by omega⟩
    ·
      clear h hLL hr3 hr4
      rintro g10 f2 w2 ⟨hr10, hr4, hr3, h, hLL, hl4, hl3⟩
      refine W_seq ?_
      refine W_seq ?_
      refine W_region ?_
      refine WR_val rfl (rn_move) ?_
      refine WR_val rfl (rn_neq rfl rfl) ?_
      refine WR_nil ?_
      refine thenN ?_
      refine W_fp rfl ((by simp)) ?_
      refine W_skip ?_
      refine thenN ?_
      refine W_draw' [g4] (by kernel_rfl) ?_
      intro w914 hb914 hS914
      replace h := h.new hb914
      replace hLL := hLL.new hb914
      replace hr3 := hr3.new hb914
      replace hr4 := hr4.new hb914
      replace hr10 := hr10.new hb914
      have h_d914 := h
      have hLL_d914 := hLL
      have hr3_d914 := hr3
      have hr4_d914 := hr4
      have hr10_d914 := hr10
      refine WA_take 0 (by kernel_rfl) rfl (fun _ _ => rn_move) ?_
      refine WA_take 1 (by kernel_rfl) rfl (fun _ _ => rn_mul rfl rfl (Coup.w64 (by omega))) ?_
      refine WA_take 2 (by kernel_rfl) rfl (fun _ _ => rn_sliceAr1' (e := 5) (n := 512) (128 * i) (512) (512) (512 - 128 * i) (by kernel_rfl) rfl ⟨_, _, rfl, by omega⟩ rfl rfl (by simp) (by omega) (by omega) (by omega) (by omega) (by omega)) ?_
      refine WA_take 3 (by kernel_rfl) rfl (fun _ _ => rn_sliceAr1' (e := 5) (n := 128) (0) (128) (128) (128) (by kernel_rfl) rfl rfl rfl rfl (by simp) (by omega) (by omega) (by omega) (by omega) (by omega)) ?_
      refine WA_one 4 (by kernel_rfl) ?_
      refine WO_mk rfl rfl (mk_copy (e := 5) (by kernel_rfl) (by kernel_rfl) rfl rfl g4 ((0 + 128 * i)) hr4 (bv S) (by rw [hSb]; exact (Nat.min_eq_left (by omega)).symm) (fun _ => ⟨rfl, _, rfl, fun j v hv => by rw [Addr.add_lit]; exact (hr10.slA (m := 128) (sz := 1) hSb (by omega)).cell j hv⟩) (by rw [hSb]; omega) (bv_one _) (fun w73 hr4 ho73 => ?_))
      have hS915 := hS914.add1 ho73 (by first | (left; omega) | (right; simp; done) | (right; simp; omega))
      refine ⟨hS915, ?_⟩
      replace h := h.only ho73 (by first | (right; simp; done) | (left; omega))
      replace hLL := hLL.only ho73 (by first | omega | (right; exact ⟨by omega, by assumption⟩))
      replace hr3 := hr3.only ho73 (Nat.ne_of_lt lt_g3_g4)
      replace hr10 := hr10.only ho73 (by omega)
      refine WA_done (by kernel_rfl) ?_
      refine blockN ?_
      refine thenN ?_
      refine W_region ?_
      refine WR_val rfl (rn_add rfl rfl (Coup.w64 (by omega))) ?_
      refine WR_val rfl (rn_move) ?_
      refine WR_nil ?_
      rw [Nat.zero_add, hst] at hr4
      refine loopN ⟨i + 1, by omega, ⟨by go_num, rfl, rfl, rfl, rfl⟩, by omega, hr4, hr3, h.weak (fun b hb => List.mem_cons_of_mem _ hb), hLL⟩
  ·
    have hi4 : i = 4 := by omega
    subst hi4
    rw [partP_4 hXl] at hr4
    refine W_exit ?_
    refine thenX ?_
    refine loopX ?_
    refine blockX ?_
    refine thenN ?_
    refine W_seq ?_
    refine W_region ?_
    refine WR_val rfl (rn_move) ?_
    refine WR_val rfl (rn_load rfl (Ld.row1 hr3 (by kernel_rfl) rfl)) ?_
    refine WR_val rfl (rn_load rfl (Ld.rowA (k := 512) hr4 (by kernel_rfl) (by kernel_rfl) (by first | (simp; done) | (simp [bv_length, *]; done) | assumption))) ?_
    refine WR_ent rfl (rn_call (by kernel_rfl) rfl) (frameP h hok.cl hok.cll hok.fr2 hok.frm n X hXl) ?_
    rintro _ w78 ⟨rfl, ⟨cv2, h⟩, hb78⟩
    replace hLL := hLL.ll hb78 (by first | (intro b hb; exact hb) | (intro b hb; simp [hb]; done) | simp)
    replace hr3 := hr3.kpd hb78.kp (by first | (refine notLL ?_; left; omega) | (refine notLL ?_; right; simp; done) | (intro b o e; cases e; first | (refine notLL ?_; left; omega) | (refine notLL ?_; right; simp; done) | (refine notLL ?_; right; simp [*]; done)) | (intro b hb; refine notLL ?_; left; omega) | (intro b hb e; cases e; exact notLL (by right; simp [*]) hb))
    replace hr4 := hr4.kpd hb78.kp (by first | (refine notLL ?_; left; omega) | (refine notLL ?_; right; simp; done) | (intro b o e; cases e; first | (refine notLL ?_; left; omega) | (refine notLL ?_; right; simp; done) | (refine notLL ?_; right; simp [*]; done)) | (intro b hb; refine notLL ?_; left; omega) | (intro b hb e; cases e; exact notLL (by right; simp [*]) hb))
    refine WR_nil ?_
    refine thenN ?_
    refine W_seq ?_
    refine W_region ?_
    refine WR_val rfl (rn_load rfl (Ld.rowA (k := 512) hr4 (by kernel_rfl) (by kernel_rfl) (by first | (simp; done) | (simp [bv_length, *]; done) | assumption))) ?_
    refine WR_sk rfl (sk_storeA 512 (bv X) rfl rfl hr4 (by kernel_rfl) (by first | assumption | (simp; done) | (simp [bv_length, *]; done)) (by first | assumption | (simp; done) | (simp [bv_length, *]; done) | rfl) (by first | exact bv_one _ | assumption | (simp [Value.oneCell']; done)) (fun w916 hr4 ho916 => ?_))
    replace h := h.only ho916 (by first | (right; simp; done) | (left; omega))
    replace hLL := hLL.only ho916 (by first | omega | (right; exact ⟨by omega, by assumption⟩))
    replace hr3 := hr3.only ho916 (Nat.ne_of_lt lt_g3_g4)
    refine WR_val rfl (rn_assign) ?_
    refine WR_nil ?_
    refine thenN ?_
    refine W_ret ?_
    refine ret_ret [_, _] ⟨⟨_, rfl, Ld.rowA (k := 512) hr4 (by kernel_rfl) (by kernel_rfl) (by first | (simp; done) | (simp [bv_length, *]; done) | assumption)⟩, rfl, trivial⟩ ?_
    exact ⟨rfl, ⟨_, h.weak (fun b hb => by simp [hb])⟩, hLL⟩
theorem committedP (h : PlAt g x q mc md cv cv Y lo L P w) (hok : PlOk P) (n : Nat) (hn : n < P.n) :
    Calls Tryz.prog 35 [.pointer (some ⟨q, 0, none⟩), .int .i64 (n : Int)].toArray w (Ret fun v w' => v = .tuple #[.agg (bv (askX P n)).toArray, .int .i64 0] ∧ (∃ cv', PlAt g x q mc md cv' cv' Y lo L (askP P n) w') ∧ LoL lo L w w') := by
  cases hb : P.di n with
  | some b =>
    have e1 : askX P n = b := by unfold askX; rw [hb]
    have e2 : askP P n = P := by unfold askP; rw [hb]
    rw [e1, e2]
    exact committedD h hok n hn hb
  | none =>
    have e2 : askP P n = { P with cl := frameC P.fr P.cl n (askX P n) } := by unfold askP; rw [hb]
    cases hc : P.cl[idxC P.cl n]? with
    | some c =>
      have e1 : askX P n = c.page := by unfold askX; rw [hb, hc]
      rw [e2, e1]
      exact committedC h hok n hn hb hc
    | none =>
      have e1 : askX P n = pageD P.D (1 + P.G.size + n * 4) := by unfold askX; rw [hb, hc]
      rw [e2, e1]
      exact committedR h hok n hn hb hc
end
end Go.Proofs.YtielfpkjoidomaaGreat
namespace Go.Proofs.YtielfpkjoidomaaGreat
open Go Go.RowKit Coup
theorem askP_same (P : Pl) (n : Nat) : (askP P n).D = P.D ∧ (askP P n).G = P.G ∧ (askP P n).fr = P.fr ∧ (askP P n).ch = P.ch ∧ (askP P n).di = P.di ∧ (askP P n).dead = P.dead ∧ (askP P n).n = P.n := by
  unfold askP
  split <;> exact ⟨rfl, rfl, rfl, rfl, rfl, rfl, rfl⟩
def getX (P : Pl) (n : Nat) : Pg := match P.ch n with
  | some b => b
  | none => askX P n
def getP (P : Pl) (n : Nat) : Pl := match P.ch n with
  | some _ => P
  | none => askP P n
def putP (P : Pl) (n : Nat) (X : Pg) : Pl := { askP P n with ch := updP P.ch n (if X = askX P n then none else some X) }
theorem updP_upd (c : PgM) (i : Nat) (a b : Option Pg) : updP (updP c i a) i b = updP c i b := by
  funext j
  unfold updP
  split <;> rfl
section
variable {Y : World → List Nat → Prop} [Thing Y] {g x q mc md lo : Nat} {rv cv : Value} {L : List Nat} {P : Pl} {w : World}
set_option maxRecDepth 20000 in
theorem getNo (h : PlAt g x q mc md rv cv Y lo L P w) (hsz : P.G.size ≤ 4000) (n : Int) (hne : readyE P n ≠ 0) : Calls Tryz.prog 17 [.pointer (some ⟨q, 0, none⟩), .int .i64 n].toArray w (Ret fun v w' => v = .tuple #[.agg zP.toArray, .int .i64 (readyE P n)] ∧ Below w.heap.size w w') := by
  have hB := Below.refl w.heap.size w
  have hrd := fun w' (h' : PlAt g x q mc md rv cv Y lo L P w') => readyP h' hsz n
  have hz : zP.length = 512 := List.length_replicate
  have hz1 : ∀ v ∈ zP, Value.oneCell' v = true := fun v hv => by rw [(List.mem_replicate.1 hv).2]; rfl
  obtain ⟨e, he⟩ : ∃ e, readyE P n = e := ⟨_, rfl⟩
  rw [he] at hrd hne ⊢
  have hw := fun w' (hb : Below w.heap.size w w') => h.new hb
  refine calls_W (fn := Tryz.f17) (rs := [.cell 4 37, .tmp 5]) (n := 32) Tryz.func17 rfl rfl Tryz.ntmps17 (by kernel_rfl) rfl ?_
  refine W_seq ?_
  refine W_region ?_
  refine WR_mk rfl (mk_alloc (List.replicate 512 (Value.int .u8 0)) (by kernel_rfl) (fun g4 w4 hg4 hr4 hb4 => ?_))
  have ge_hB_g4 := Nat.le_trans hB.size hg4
  replace hB := hB.acc hb4
  refine WR_val rfl (rn_assign) ?_
  refine WR_nil ?_
  refine thenN ?_
  refine W_seq ?_
  refine W_seq ?_
  refine W_region ?_
  refine WR_val rfl (rn_move) ?_
  refine WR_val rfl (rn_move) ?_
  refine WR_ent rfl (rn_call (by kernel_rfl) rfl) (hrd w4 (hw _ hB)) ?_
  rintro _ w11 ⟨rfl, hb11⟩
  replace hr4 := hr4.new hb11
  replace hB := hB.acc hb11
  refine WR_val rfl (rn_assign) ?_
  refine WR_nil ?_
  refine thenN ?_
  refine W_seq ?_
  refine W_region ?_
  refine WR_val rfl (rn_move) ?_
  refine WR_val rfl (rn_neq rfl rfl) ?_
  refine WR_nil ?_
  refine thenN ?_
  refine W_tp rfl (hne) ?_
  refine W_seq ?_
  refine W_region ?_
  refine WR_val rfl (rn_zeroed (List.replicate 512 (Value.int .u8 0)) (by kernel_rfl)) ?_
  refine WR_val rfl (rn_move) ?_
  refine WR_sk rfl (sk_storeA 512 (zP) rfl rfl hr4 (by kernel_rfl) (by first | assumption | (simp; done) | (simp [bv_length, *]; done)) (by first | assumption | (simp; done) | (simp [bv_length, *]; done) | rfl) (by first | exact bv_one _ | assumption | (simp [Value.oneCell']; done)) (fun w901 hr4 ho901 => ?_))
  replace hB := ho901.below hB ge_hB_g4
  refine WR_val rfl (rn_assign) ?_
  refine WR_nil ?_
  refine thenN ?_
  refine W_ret ?_
  refine thenR ?_
  refine ret_ret [_, _] ⟨⟨_, rfl, Ld.rowA (k := 512) hr4 (by kernel_rfl) (by kernel_rfl) (by first | (simp; done) | (simp [bv_length, *]; done) | assumption)⟩, rfl, trivial⟩ ?_
  exact ⟨rfl, hB⟩
set_option maxRecDepth 20000 in
theorem getYes (h : PlAt g x q mc md cv cv Y lo L P w) (hok : PlOk P) (hde : P.dead = false) (n : Nat) (hn : n < P.n) : Calls Tryz.prog 17 [.pointer (some ⟨q, 0, none⟩), .int .i64 (n : Int)].toArray w (Ret fun v w' => v = .tuple #[.agg (bv (getX P n)).toArray, .int .i64 0] ∧ (∃ cv', PlAt g x q mc md cv' cv' Y lo L (getP P n) w') ∧ LoL lo L w w') := by
  have hLL := LoL.refl lo L w
  have hnl := h.nle.1
  have hDk := (tOk h.lg.fst).1
  have hre : readyE P n = 0 := by unfold readyE; rw [hde, if_neg (by simp), if_pos (by omega)]
  have hrd := fun L' w' (h' : PlAt g x q mc md cv cv Y lo L' P w') => readyP h' hok.lg.szm n
  rw [hre] at hrd
  have hX0 := askX_len hok hDk hn
  have hcm := fun L' w' (h' : PlAt g x q mc md cv cv Y lo L' P w') => committedP h' hok n hn
  obtain ⟨X0, hX⟩ : ∃ X0, askX P n = X0 := ⟨_, rfl⟩
  rw [hX] at hX0
  simp only [hX] at hcm
  have hX0b : (bv X0).length = 512 := by rw [bv_length]; exact hX0
  have hz : zP.length = 512 := List.length_replicate
  have hz1 : ∀ v ∈ zP, Value.oneCell' v = true := fun v hv => by rw [(List.mem_replicate.1 hv).2]; rfl
  obtain ⟨o, ho⟩ : ∃ o, mapV P.ch n = o := ⟨_, rfl⟩
  have hq := h.row
  unfold plV at hq
  have hm := h.mch
  unfold getX getP
  cases hch : P.ch n with
  | some b =>
  have hbl : (bv b).length = 512 := by rw [bv_length]; exact hok.ch n b hch
  have ho2 : o = some (.agg (bv b).toArray) := by rw [← ho]; unfold mapV; rw [hch]; rfl
  subst ho2
  dsimp only
  refine calls_W (fn := Tryz.f17) (rs := [.cell 4 37, .tmp 5]) (n := 32) Tryz.func17 rfl rfl Tryz.ntmps17 (by kernel_rfl) rfl ?_
  refine W_seq ?_
  refine W_region ?_
  refine WR_mk rfl (mk_alloc (List.replicate 512 (Value.int .u8 0)) (by kernel_rfl) (fun g4 w4 hg4 hr4 hb4 => ?_))
  have lt_q_g4 : q < g4 := Nat.lt_of_lt_of_le hq.lt hg4
  have lt_mc_g4 : mc < g4 := Nat.lt_of_lt_of_le hm.lt hg4
  replace h := h.newc hb4 hg4 hr4.lt
  replace hLL := hLL.new hb4
  replace hq := hq.new hb4
  replace hm := hm.new hb4
  refine WR_val rfl (rn_assign) ?_
  refine WR_nil ?_
  refine thenN ?_
  refine W_seq ?_
  refine W_seq ?_
  refine W_region ?_
  refine WR_val rfl (rn_move) ?_
  refine WR_val rfl (rn_move) ?_
  refine WR_ent rfl (rn_call (by kernel_rfl) rfl) (hrd _ w4 h) ?_
  rintro _ w11 ⟨rfl, hb11⟩
  replace h := h.new hb11
  replace hLL := hLL.new hb11
  replace hq := hq.new hb11
  replace hm := hm.new hb11
  replace hr4 := hr4.new hb11
  refine WR_val rfl (rn_assign) ?_
  refine WR_nil ?_
  refine thenN ?_
  refine W_seq ?_
  refine W_region ?_
  refine WR_val rfl (rn_move) ?_
  refine WR_val rfl (rn_neq rfl rfl) ?_
  refine WR_nil ?_
  refine thenN ?_
  refine W_fp rfl ((by simp)) ?_
  refine W_skip ?_
  refine thenN ?_
  refine W_seq ?_
  refine W_seq ?_
  refine W_region ?_
  refine WR_val rfl (rn_move) ?_
  refine WR_val rfl (rn_nilCheckP rfl) ?_
  refine WR_val rfl (rn_fieldAddr (off := 4) (by kernel_rfl) rfl) ?_
  refine WR_val rfl (rn_load rfl (Ld.row1 hq (by kernel_rfl) rfl)) ?_
  refine WR_val rfl (rn_move) ?_
  refine WR_val rfl (rn_lookupC (k := 3) (e := 37) (.agg zP.toArray) (some (.agg (bv b).toArray)) (by kernel_rfl) (by kernel_rfl) zP_is hm rfl rfl n rfl hn (by omega) ho) ?_
  refine WR_val rfl (rn_move) ?_
  refine WR_val rfl (rn_extract rfl rfl) ?_
  refine WR_val rfl (rn_extract rfl rfl) ?_
  refine WR_mk rfl (mk_alloc (List.replicate 512 (Value.int .u8 0)) (by kernel_rfl) (fun g7 w7 hg7 hr7 hb7 => ?_))
  have lt_q_g7 : q < g7 := Nat.lt_of_lt_of_le hq.lt hg7
  have lt_mc_g7 : mc < g7 := Nat.lt_of_lt_of_le hm.lt hg7
  have lt_g4_g7 : g4 < g7 := Nat.lt_of_lt_of_le hr4.lt hg7
  replace h := h.newc hb7 hg7 hr7.lt
  replace hLL := hLL.new hb7
  replace hq := hq.new hb7
  replace hm := hm.new hb7
  replace hr4 := hr4.new hb7
  refine WR_sk rfl (sk_storeA 512 (bv b) rfl rfl hr7 (by kernel_rfl) (by first | assumption | (simp; done) | (simp [bv_length, *]; done)) (by first | assumption | (simp; done) | (simp [bv_length, *]; done) | rfl) (by first | exact bv_one _ | assumption | (simp [Value.oneCell']; done)) (fun w901 hr7 ho901 => ?_))
  replace h := h.only ho901 (by first | (right; simp; done) | (left; omega))
  replace hLL := hLL.only ho901 (by first | omega | (right; exact ⟨by omega, by assumption⟩))
  replace hq := hq.only ho901 (Nat.ne_of_lt lt_q_g7)
  replace hm := hm.only ho901 (Nat.ne_of_lt lt_mc_g7)
  replace hr4 := hr4.only ho901 (Nat.ne_of_lt lt_g4_g7)
  refine WR_val rfl (rn_assign) ?_
  refine WR_nil ?_
  refine thenN ?_
  refine W_seq ?_
  refine W_region ?_
  refine WR_val rfl (rn_move) ?_
  refine WR_nil ?_
  refine thenN ?_
  refine W_tb rfl (rfl) ?_
  refine W_seq ?_
  refine W_region ?_
  refine WR_val rfl (rn_load rfl (Ld.rowA (k := 512) hr7 (by kernel_rfl) (by kernel_rfl) (by first | (simp; done) | (simp [bv_length, *]; done) | assumption))) ?_
  refine WR_sk rfl (sk_storeA 512 (bv b) rfl rfl hr4 (by kernel_rfl) (by first | assumption | (simp; done) | (simp [bv_length, *]; done)) (by first | assumption | (simp; done) | (simp [bv_length, *]; done) | rfl) (by first | exact bv_one _ | assumption | (simp [Value.oneCell']; done)) (fun w902 hr4 ho902 => ?_))
  replace h := h.only ho902 (by first | (right; simp; done) | (left; omega))
  replace hLL := hLL.only ho902 (by first | omega | (right; exact ⟨by omega, by assumption⟩))
  replace hq := hq.only ho902 (Nat.ne_of_lt lt_q_g4)
  replace hm := hm.only ho902 (Nat.ne_of_lt lt_mc_g4)
  replace hr7 := hr7.only ho902 (Nat.ne_of_gt lt_g4_g7)
  refine WR_val rfl (rn_assign) ?_
  refine WR_nil ?_
  refine thenN ?_
  refine W_ret ?_
  refine thenR ?_
  refine ret_ret [_, _] ⟨⟨_, rfl, Ld.rowA (k := 512) hr4 (by kernel_rfl) (by kernel_rfl) (by first | (simp; done) | (simp [bv_length, *]; done) | assumption)⟩, rfl, trivial⟩ ?_
  exact ⟨rfl, ⟨_, h.weak (fun b hb => by simp [hb])⟩, hLL⟩
  | none =>
  have ho2 : o = none := by rw [← ho]; unfold mapV; rw [hch]; rfl
  subst ho2
  dsimp only
  rw [hX]
  refine calls_W (fn := Tryz.f17) (rs := [.cell 4 37, .tmp 5]) (n := 32) Tryz.func17 rfl rfl Tryz.ntmps17 (by kernel_rfl) rfl ?_
  refine W_seq ?_
  refine W_region ?_
  refine WR_mk rfl (mk_alloc (List.replicate 512 (Value.int .u8 0)) (by kernel_rfl) (fun g4 w4 hg4 hr4 hb4 => ?_))
  have lt_q_g4 : q < g4 := Nat.lt_of_lt_of_le hq.lt hg4
  have lt_mc_g4 : mc < g4 := Nat.lt_of_lt_of_le hm.lt hg4
  replace h := h.newc hb4 hg4 hr4.lt
  replace hLL := hLL.new hb4
  replace hq := hq.new hb4
  replace hm := hm.new hb4
  refine WR_val rfl (rn_assign) ?_
  refine WR_nil ?_
  refine thenN ?_
  refine W_seq ?_
  refine W_seq ?_
  refine W_region ?_
  refine WR_val rfl (rn_move) ?_
  refine WR_val rfl (rn_move) ?_
  refine WR_ent rfl (rn_call (by kernel_rfl) rfl) (hrd _ w4 h) ?_
  rintro _ w11 ⟨rfl, hb11⟩
  replace h := h.new hb11
  replace hLL := hLL.new hb11
  replace hq := hq.new hb11
  replace hm := hm.new hb11
  replace hr4 := hr4.new hb11
  refine WR_val rfl (rn_assign) ?_
  refine WR_nil ?_
  refine thenN ?_
  refine W_seq ?_
  refine W_region ?_
  refine WR_val rfl (rn_move) ?_
  refine WR_val rfl (rn_neq rfl rfl) ?_
  refine WR_nil ?_
  refine thenN ?_
  refine W_fp rfl ((by simp)) ?_
  refine W_skip ?_
  refine thenN ?_
  refine W_seq ?_
  refine W_seq ?_
  refine W_region ?_
  refine WR_val rfl (rn_move) ?_
  refine WR_val rfl (rn_nilCheckP rfl) ?_
  refine WR_val rfl (rn_fieldAddr (off := 4) (by kernel_rfl) rfl) ?_
  refine WR_val rfl (rn_load rfl (Ld.row1 hq (by kernel_rfl) rfl)) ?_
  refine WR_val rfl (rn_move) ?_
  refine WR_val rfl (rn_lookupC (k := 3) (e := 37) (.agg zP.toArray) none (by kernel_rfl) (by kernel_rfl) zP_is hm rfl rfl n rfl hn (by omega) ho) ?_
  refine WR_val rfl (rn_move) ?_
  refine WR_val rfl (rn_extract rfl rfl) ?_
  refine WR_val rfl (rn_extract rfl rfl) ?_
  refine WR_mk rfl (mk_alloc (List.replicate 512 (Value.int .u8 0)) (by kernel_rfl) (fun g7 w7 hg7 hr7 hb7 => ?_))
  have lt_q_g7 : q < g7 := Nat.lt_of_lt_of_le hq.lt hg7
  have lt_mc_g7 : mc < g7 := Nat.lt_of_lt_of_le hm.lt hg7
  have lt_g4_g7 : g4 < g7 := Nat.lt_of_lt_of_le hr4.lt hg7
  replace h := h.newc hb7 hg7 hr7.lt
  replace hLL := hLL.new hb7
  replace hq := hq.new hb7
  replace hm := hm.new hb7
  replace hr4 := hr4.new hb7
  refine WR_sk rfl (sk_storeA 512 (zP) rfl rfl hr7 (by kernel_rfl) (by first | assumption | (simp; done) | (simp [bv_length, *]; done)) (by first | assumption | (simp; done) | (simp [bv_length, *]; done) | rfl) (by first | exact bv_one _ | assumption | (simp [Value.oneCell']; done)) (fun w901 hr7 ho901 => ?_))
  replace h := h.only ho901 (by first | (right; simp; done) | (left; omega))
  replace hLL := hLL.only ho901 (by first | omega | (right; exact ⟨by omega, by assumption⟩))
  replace hq := hq.only ho901 (Nat.ne_of_lt lt_q_g7)
  replace hm := hm.only ho901 (Nat.ne_of_lt lt_mc_g7)
  replace hr4 := hr4.only ho901 (Nat.ne_of_lt lt_g4_g7)
  refine WR_val rfl (rn_assign) ?_
  refine WR_nil ?_
  refine thenN ?_
  refine W_seq ?_
  refine W_region ?_
  refine WR_val rfl (rn_move) ?_
  refine WR_nil ?_
  refine thenN ?_
  refine W_fb rfl (rfl) ?_
  refine W_skip ?_
  refine thenN ?_
  refine W_seq ?_
  refine W_region ?_
  refine WR_val rfl (rn_move) ?_
  refine WR_val rfl (rn_move) ?_
  refine WR_ent rfl (rn_call (by kernel_rfl) rfl) (hcm _ w901 h) ?_
  rintro _ w29 ⟨rfl, ⟨cv2, h⟩, hb29⟩
  replace hLL := hLL.ll hb29 (by first | (intro b hb; exact hb) | (intro b hb; simp [hb]; done) | simp)
  replace hr4 := hr4.kpd hb29.kp (by first | (refine notLL ?_; left; omega) | (refine notLL ?_; right; simp; done) | (intro b o e; cases e; first | (refine notLL ?_; left; omega) | (refine notLL ?_; right; simp; done) | (refine notLL ?_; right; simp [*]; done)) | (intro b hb; refine notLL ?_; left; omega) | (intro b hb e; cases e; exact notLL (by right; simp [*]) hb))
  refine WR_val rfl (rn_extract rfl rfl) ?_
  refine WR_val rfl (rn_extract rfl rfl) ?_
  refine WR_sk rfl (sk_storeA 512 (bv X0) rfl rfl hr4 (by kernel_rfl) (by first | assumption | (simp; done) | (simp [bv_length, *]; done)) (by first | assumption | (simp; done) | (simp [bv_length, *]; done) | rfl) (by first | exact bv_one _ | assumption | (simp [Value.oneCell']; done)) (fun w902 hr4 ho902 => ?_))
  replace h := h.only ho902 (by first | (right; simp; done) | (left; omega))
  replace hLL := hLL.only ho902 (by first | omega | (right; exact ⟨by omega, by assumption⟩))
  refine WR_val rfl (rn_assign) ?_
  refine WR_nil ?_
  refine thenN ?_
  refine W_ret ?_
  refine ret_ret [_, _] ⟨⟨_, rfl, Ld.rowA (k := 512) hr4 (by kernel_rfl) (by kernel_rfl) (by first | (simp; done) | (simp [bv_length, *]; done) | assumption)⟩, rfl, trivial⟩ ?_
  exact ⟨rfl, ⟨_, h.weak (fun b hb => by simp [hb])⟩, hLL⟩
set_option maxRecDepth 20000 in
theorem putNo (h : PlAt g x q mc md rv cv Y lo L P w) (hsz : P.G.size ≤ 4000) (n : Int) (X : Pg) (hne : readyE P n ≠ 0) : Calls Tryz.prog 12 [.pointer (some ⟨q, 0, none⟩), .int .i64 n, .agg (bv X).toArray].toArray w (Ret fun v w' => v = .int .i64 (readyE P n) ∧ Below w.heap.size w w') := by
  have hB := Below.refl w.heap.size w
  have hrd := fun w' (h' : PlAt g x q mc md rv cv Y lo L P w') => readyP h' hsz n
  obtain ⟨e, he⟩ : ∃ e, readyE P n = e := ⟨_, rfl⟩
  rw [he] at hrd hne ⊢
  have hw := fun w' (hb : Below w.heap.size w w') => h.new hb
  refine calls_W (fn := Tryz.f12) (rs := [.tmp 6]) (n := 39) Tryz.func12 rfl rfl Tryz.ntmps12 (by kernel_rfl) rfl ?_
  refine W_seq ?_
  refine W_region ?_
  refine WR_mk rfl (mk_box (bv X) rfl (fun g5 w5 hg5 hr5 hb5 => ?_))
  have ge_hB_g5 := Nat.le_trans hB.size hg5
  replace hB := hB.acc hb5
  refine WR_val rfl (rn_assign) ?_
  refine WR_nil ?_
  refine thenN ?_
  refine W_seq ?_
  refine W_seq ?_
  refine W_region ?_
  refine WR_val rfl (rn_move) ?_
  refine WR_val rfl (rn_move) ?_
  refine WR_ent rfl (rn_call (by kernel_rfl) rfl) (hrd w5 (hw _ hB)) ?_
  rintro _ w12 ⟨rfl, hb12⟩
  replace hr5 := hr5.new hb12
  replace hB := hB.acc hb12
  refine WR_val rfl (rn_assign) ?_
  refine WR_nil ?_
  refine thenN ?_
  refine W_seq ?_
  refine W_region ?_
  refine WR_val rfl (rn_move) ?_
  refine WR_val rfl (rn_neq rfl rfl) ?_
  refine WR_nil ?_
  refine thenN ?_
  refine W_tp rfl (hne) ?_
  refine W_seq ?_
  refine W_region ?_
  refine WR_val rfl (rn_move) ?_
  refine WR_val rfl (rn_assign) ?_
  refine WR_nil ?_
  refine thenN ?_
  refine W_ret ?_
  refine thenR ?_
  refine ret_ret [_] ⟨rfl, trivial⟩ ?_
  exact ⟨rfl, hB⟩
set_option maxRecDepth 20000 in
theorem putYes (h : PlAt g x q mc md cv cv Y lo L P w) (hok : PlOk P) (hde : P.dead = false) (n : Nat) (hn : n < P.n) (X : Pg) (hX : X.length = 512) : Calls Tryz.prog 12 [.pointer (some ⟨q, 0, none⟩), .int .i64 (n : Int), .agg (bv X).toArray].toArray w (Ret fun v w' => v = .int .i64 0 ∧ (∃ cv', PlAt g x q mc md cv' cv' Y lo L (putP P n X) w') ∧ LoL lo L w w') := by
  have hLL := LoL.refl lo L w
  have hnl := h.nle.1
  have hDk := (tOk h.lg.fst).1
  have hre : readyE P n = 0 := by unfold readyE; rw [hde, if_neg (by simp), if_pos (by omega)]
  have hrd := fun L' w' (h' : PlAt g x q mc md cv cv Y lo L' P w') => readyP h' hok.lg.szm n
  rw [hre] at hrd
  have hX0 := askX_len hok hDk hn
  have hcm := fun L' w' (h' : PlAt g x q mc md cv cv Y lo L' P w') => committedP h' hok n hn
  obtain ⟨X0, hX0e⟩ : ∃ X0, askX P n = X0 := ⟨_, rfl⟩
  rw [hX0e] at hX0
  simp only [hX0e] at hcm
  obtain ⟨e1, e2, e3, e4, e5, e6, e7⟩ := askP_same P n
  unfold putP
  rw [hX0e]
  obtain ⟨P2, hP2⟩ : ∃ P2, askP P n = P2 := ⟨_, rfl⟩
  rw [hP2] at e1 e2 e3 e4 e5 e6 e7 ⊢
  simp only [hP2] at hcm
  rw [← e4]
  rw [← e7] at hn hnl
  have hX0b : (bv X0).length = 512 := by rw [bv_length]; exact hX0
  have hXb : (bv X).length = 512 := by rw [bv_length]; exact hX
  obtain ⟨hml, hmL⟩ := h.mcl
  have hqm := h.qm
  refine calls_W (fn := Tryz.f12) (rs := [.tmp 6]) (n := 39) Tryz.func12 rfl rfl Tryz.ntmps12 (by kernel_rfl) rfl ?_
  refine W_seq ?_
  refine W_region ?_
  refine WR_mk rfl (mk_box (bv X) rfl (fun g5 w5 hg5 hr5 hb5 => ?_))
  replace h := h.newc hb5 hg5 hr5.lt
  replace hLL := hLL.new hb5
  refine WR_val rfl (rn_assign) ?_
  refine WR_nil ?_
  refine thenN ?_
  refine W_seq ?_
  refine W_seq ?_
  refine W_region ?_
  refine WR_val rfl (rn_move) ?_
  refine WR_val rfl (rn_move) ?_
  refine WR_ent rfl (rn_call (by kernel_rfl) rfl) (hrd _ w5 h) ?_
  rintro _ w12 ⟨rfl, hb12⟩
  replace h := h.new hb12
  replace hLL := hLL.new hb12
  replace hr5 := hr5.new hb12
  refine WR_val rfl (rn_assign) ?_
  refine WR_nil ?_
  refine thenN ?_
  refine W_seq ?_
  refine W_region ?_
  refine WR_val rfl (rn_move) ?_
  refine WR_val rfl (rn_neq rfl rfl) ?_
  refine WR_nil ?_
  refine thenN ?_
  refine W_fp rfl ((by simp)) ?_
  refine W_skip ?_
  refine thenN ?_
  refine W_seq ?_
  refine W_region ?_
  refine WR_val rfl (rn_move) ?_
  refine WR_val rfl (rn_move) ?_
  refine WR_ent rfl (rn_call (by kernel_rfl) rfl) (hcm _ w12 h) ?_
  rintro _ w19 ⟨rfl, ⟨cv2, h⟩, hb19⟩
  replace hLL := hLL.ll hb19 (by first | (intro b hb; exact hb) | (intro b hb; simp [hb]; done) | simp)
  replace hr5 := hr5.kpd hb19.kp (by first | (refine notLL ?_; left; omega) | (refine notLL ?_; right; simp; done) | (intro b o e; cases e; first | (refine notLL ?_; left; omega) | (refine notLL ?_; right; simp; done) | (refine notLL ?_; right; simp [*]; done)) | (intro b hb; refine notLL ?_; left; omega) | (intro b hb e; cases e; exact notLL (by right; simp [*]) hb))
  refine WR_val rfl (rn_move) ?_
  refine WR_val rfl (rn_extract rfl rfl) ?_
  refine WR_val rfl (rn_extract rfl rfl) ?_
  refine WR_mk rfl (mk_alloc (List.replicate 512 (Value.int .u8 0)) (by kernel_rfl) (fun g8 w8 hg8 hr8 hb8 => ?_))
  have lt_g5_g8 : g5 < g8 := Nat.lt_of_lt_of_le hr5.lt hg8
  replace h := h.newc hb8 hg8 hr8.lt
  replace hLL := hLL.new hb8
  replace hr5 := hr5.new hb8
  refine WR_sk rfl (sk_storeA 512 (bv X0) rfl rfl hr8 (by kernel_rfl) (by first | assumption | (simp; done) | (simp [bv_length, *]; done)) (by first | assumption | (simp; done) | (simp [bv_length, *]; done) | rfl) (by first | exact bv_one _ | assumption | (simp [Value.oneCell']; done)) (fun w901 hr8 ho901 => ?_))
  replace h := h.only ho901 (by first | (right; simp; done) | (left; omega))
  replace hLL := hLL.only ho901 (by first | omega | (right; exact ⟨by omega, by assumption⟩))
  replace hr5 := hr5.only ho901 (Nat.ne_of_lt lt_g5_g8)
  refine WR_val rfl (rn_assign) ?_
  refine WR_nil ?_
  refine thenN ?_
  refine W_seq ?_
  refine W_seq ?_
  refine W_region ?_
  refine WR_val rfl (rn_move) ?_
  refine WR_val rfl (rn_neq rfl rfl) ?_
  refine WR_nil ?_
  refine thenN ?_
  refine W_fp rfl ((by simp)) ?_
  refine W_skip ?_
  refine thenN ?_
  refine W_seq ?_
  have hq := h.row
  unfold plV at hq
  refine W_region ?_
  refine WR_val rfl (rn_move) ?_
  refine WR_val rfl (rn_nilCheckP rfl) ?_
  refine WR_val rfl (rn_fieldAddr (off := 4) (by kernel_rfl) rfl) ?_
  refine WR_val rfl (rn_load rfl (Ld.row1 hq (by kernel_rfl) rfl)) ?_
  refine WR_val rfl (rn_move) ?_
  have hm := h.mch
  have hg5m : g5 ≠ mc := fun e => h.mcl.2 (by rw [e]; simp)
  have hg8m : g8 ≠ mc := fun e => h.mcl.2 (by rw [e]; simp)
  refine WR_mk rfl (mk_delete (k := 3) (e := 37) (by kernel_rfl) (by kernel_rfl) hm rfl rfl (n) (by first | rfl | omega) (by omega) (by omega) (fun w902 hm ho902 => ?_))
  replace hLL := hLL.only ho902 (by first | omega | (right; exact ⟨by omega, by assumption⟩))
  replace hr5 := hr5.only ho902 (by omega)
  replace hr8 := hr8.only ho902 (by omega)
  replace hq := hq.only ho902 (by omega)
  rw [mapV_none] at hm
  replace h := h.setCh hm ho902
  refine WR_nil ?_
  refine thenN ?_
  refine W_seq ?_
  refine W_seq ?_
  refine W_region ?_
  refine WR_val rfl (rn_load rfl (Ld.rowA (k := 512) hr5 (by kernel_rfl) (by kernel_rfl) (by first | (simp; done) | (simp [bv_length, *]; done) | assumption))) ?_
  refine WR_val rfl (rn_load rfl (Ld.rowA (k := 512) hr8 (by kernel_rfl) (by kernel_rfl) (by first | (simp; done) | (simp [bv_length, *]; done) | assumption))) ?_
  refine WR_val rfl (rn_neqA (n := 512) (by kernel_rfl) rfl rfl hX hX0) ?_
  refine WR_nil ?_
  refine thenN ?_
  refine W_ifn rfl (fun hne => ?_) (fun hne => ?_)
  ·
    have hm : MapAt Tryz.prog 3 w902 mc P2.n (mapV (updP P2.ch n none)) := h.mch
    have hh := h
    refine W_draw' [mc] (by kernel_rfl) ?_
    intro w903 hb903 hS903
    replace hLL := hLL.new hb903
    replace hr5 := hr5.new hb903
    replace hr8 := hr8.new hb903
    replace hq := hq.new hb903
    replace hm := hm.new hb903
    replace hh := hh.new hb903
    have hLL_d903 := hLL
    have hr5_d903 := hr5
    have hr8_d903 := hr8
    have hq_d903 := hq
    have hm_d903 := hm
    have hh_d903 := hh
    refine WA_take 0 (by kernel_rfl) rfl (fun _ _ => rn_move) ?_
    refine WA_take 1 (by kernel_rfl) rfl (fun _ _ => rn_nilCheckP rfl) ?_
    refine WA_take 2 (by kernel_rfl) rfl (fun _ _ => rn_fieldAddr (off := 4) (by kernel_rfl) rfl) ?_
    refine WA_take 3 (by kernel_rfl) rfl (fun w' hS' => rn_load rfl (Ld.row1 (hq_d903.kpd hS' (by first | (simp; done) | (simp; omega) | (simp [*]; done) | exact notLL (Or.inl (by omega)) | exact notLL (Or.inr (by simp)) | exact fun g (hm_d903.kpd hS' (by first | (simp; done) | (simp; omega) | (simp [*]; done) | exact notLL (Or.inl (by omega)) | exact notLL (Or.inr (by simp)) | exact fun g hm => Nat.le_trans (by omega) (inLL hm).1 | (intro b o e; cases e; exact notLL (Or.inl (by omega))) | (intro b hm; have := (hu.lt b (Option.mem_toList.1 hm)).1; omega) | (intro b o e; cases e; intro hm; have := (hu.lt _ (Option.mem_toList.1 hm)).1; omega))) => Nat.le_trans (by omega) (inLL (hm_d903.kpd hS' (by first | (simp; done) | (simp; omega) | (simp [*]; done) | exact notLL (Or.inl (by omega)) | exact notLL (Or.inr (by simp)) | exact fun g hm => Nat.le_trans (by omega) (inLL hm).1 | (intro b o e; cases e; exact notLL (Or.inl (by omega))) | (intro b hm; have := (hu.lt b (Option.mem_toList.1 hm)).1; omega) | (intro b o e; cases e; intro hm; have := (hu.lt _ (Option.mem_toList.1 hm)).1; omega)))).1 | (intro b o e; cases e; exact notLL (Or.inl (by omega))) | (intro b (hm_d903.kpd hS' (by first | (simp; done) | (simp; omega) | (simp [*]; done) | exact notLL (Or.inl (by omega)) | exact notLL (Or.inr (by simp)) | exact fun g hm => Nat.le_trans (by omega) (inLL hm).1 | (intro b o e; cases e; exact notLL (Or.inl (by omega))) | (intro b hm; have := (hu.lt b (Option.mem_toList.1 hm)).1; omega) | (intro b o e; cases e; intro hm; have := (hu.lt _ (Option.mem_toList.1 hm)).1; omega))); have := (hu.lt b (Option.mem_toList.1 (hm_d903.kpd hS' (by first | (simp; done) | (simp; omega) | (simp [*]; done) | exact notLL (Or.inl (by omega)) | exact notLL (Or.inr (by simp)) | exact fun g hm => Nat.le_trans (by omega) (inLL hm).1 | (intro b o e; cases e; exact notLL (Or.inl (by omega))) | (intro b hm; have := (hu.lt b (Option.mem_toList.1 hm)).1; omega) | (intro b o e; cases e; intro hm; have := (hu.lt _ (Option.mem_toList.1 hm)).1; omega))))).1; omega) | (intro b o e; cases e; intro (hm_d903.kpd hS' (by first | (simp; done) | (simp; omega) | (simp [*]; done) | exact notLL (Or.inl (by omega)) | exact notLL (Or.inr (by simp)) | exact fun g hm => Nat.le_trans (by omega) (inLL hm).1 | (intro b o e; cases e; exact notLL (Or.inl (by omega))) | (intro b hm; have := (hu.lt b (Option.mem_toList.1 hm)).1; omega) | (intro b o e; cases e; intro hm; have := (hu.lt _ (Option.mem_toList.1 hm)).1; omega))); have := (hu.lt _ (Option.mem_toList.1 (hm_d903.kpd hS' (by first | (simp; done) | (simp; omega) | (simp [*]; done) | exact notLL (Or.inl (by omega)) | exact notLL (Or.inr (by simp)) | exact fun g hm => Nat.le_trans (by omega) (inLL hm).1 | (intro b o e; cases e; exact notLL (Or.inl (by omega))) | (intro b hm; have := (hu.lt b (Option.mem_toList.1 hm)).1; omega) | (intro b o e; cases e; intro hm; have := (hu.lt _ (Option.mem_toList.1 hm)).1; omega))))).1; omega))) (by kernel_rfl) rfl)) ?_
    refine WA_take 4 (by kernel_rfl) rfl (fun _ _ => rn_move) ?_
    refine WA_take 5 (by kernel_rfl) rfl (fun w' hS' => rn_load rfl (Ld.rowA (k := 512) (hr5_d903.kpd hS' (by first | (simp; done) | (simp; omega) | (simp [*]; done) | exact notLL (Or.inl (by omega)) | exact notLL (Or.inr (by simp)) | exact fun g (hm_d903.kpd hS' (by first | (simp; done) | (simp; omega) | (simp [*]; done) | exact notLL (Or.inl (by omega)) | exact notLL (Or.inr (by simp)) | exact fun g hm => Nat.le_trans (by omega) (inLL hm).1 | (intro b o e; cases e; exact notLL (Or.inl (by omega))) | (intro b hm; have := (hu.lt b (Option.mem_toList.1 hm)).1; omega) | (intro b o e; cases e; intro hm; have := (hu.lt _ (Option.mem_toList.1 hm)).1; omega))) => Nat.le_trans (by omega) (inLL (hm_d903.kpd hS' (by first | (simp; done) | (simp; omega) | (simp [*]; done) | exact notLL (Or.inl (by omega)) | exact notLL (Or.inr (by simp)) | exact fun g hm => Nat.le_trans (by omega) (inLL hm).1 | (intro b o e; cases e; exact notLL (Or.inl (by omega))) | (intro b hm; have := (hu.lt b (Option.mem_toList.1 hm)).1; omega) | (intro b o e; cases e; intro hm; have := (hu.lt _ (Option.mem_toList.1 hm)).1; omega)))).1 | (intro b o e; cases e; exact notLL (Or.inl (by omega))) | (intro b (hm_d903.kpd hS' (by first | (simp; done) | (simp; omega) | (simp [*]; done) | exact notLL (Or.inl (by omega)) | exact notLL (Or.inr (by simp)) | exact fun g hm => Nat.le_trans (by omega) (inLL hm).1 | (intro b o e; cases e; exact notLL (Or.inl (by omega))) | (intro b hm; have := (hu.lt b (Option.mem_toList.1 hm)).1; omega) | (intro b o e; cases e; intro hm; have := (hu.lt _ (Option.mem_toList.1 hm)).1; omega))); have := (hu.lt b (Option.mem_toList.1 (hm_d903.kpd hS' (by first | (simp; done) | (simp; omega) | (simp [*]; done) | exact notLL (Or.inl (by omega)) | exact notLL (Or.inr (by simp)) | exact fun g hm => Nat.le_trans (by omega) (inLL hm).1 | (intro b o e; cases e; exact notLL (Or.inl (by omega))) | (intro b hm; have := (hu.lt b (Option.mem_toList.1 hm)).1; omega) | (intro b o e; cases e; intro hm; have := (hu.lt _ (Option.mem_toList.1 hm)).1; omega))))).1; omega) | (intro b o e; cases e; intro (hm_d903.kpd hS' (by first | (simp; done) | (simp; omega) | (simp [*]; done) | exact notLL (Or.inl (by omega)) | exact notLL (Or.inr (by simp)) | exact fun g hm => Nat.le_trans (by omega) (inLL hm).1 | (intro b o e; cases e; exact notLL (Or.inl (by omega))) | (intro b hm; have := (hu.lt b (Option.mem_toList.1 hm)).1; omega) | (intro b o e; cases e; intro hm; have := (hu.lt _ (Option.mem_toList.1 hm)).1; omega))); have := (hu.lt _ (Option.mem_toList.1 (hm_d903.kpd hS' (by first | (simp; done) | (simp; omega) | (simp [*]; done) | exact notLL (Or.inl (by omega)) | exact notLL (Or.inr (by simp)) | exact fun g hm => Nat.le_trans (by omega) (inLL hm).1 | (intro b o e; cases e; exact notLL (Or.inl (by omega))) | (intro b hm; have := (hu.lt b (Option.mem_toList.1 hm)).1; omega) | (intro b o e; cases e; intro hm; have := (hu.lt _ (Option.mem_toList.1 hm)).1; omega))))).1; omega))) (by kernel_rfl) (by kernel_rfl) (by first | (simp; done) | (simp [bv_length, *]; done) | assumption))) ?_
    refine WA_one 6 (by kernel_rfl) ?_
    refine WO_sk rfl rfl (sk_mapUpd (k := 3) (e := 37) (.agg (bv X).toArray) (by kernel_rfl) (by kernel_rfl) hm rfl rfl rfl (n) (by first | rfl | omega) (by omega) (by omega) (fun w905 hm ho905 => ?_))
    have hS904 := hS903.add1 ho905 (by first | (left; omega) | (right; simp; done) | (right; simp; omega))
    refine ⟨hS904, ?_⟩
    replace hLL := hLL.only ho905 (by first | omega | (right; exact ⟨by omega, by assumption⟩))
    replace hr5 := hr5.only ho905 (by omega)
    replace hr8 := hr8.only ho905 (by omega)
    replace hq := hq.only ho905 (by omega)
    rw [mapV_some, updP_upd] at hm
    have h2 := hh.setCh hm ho905
    refine WA_done (by kernel_rfl) ?_
    refine thenN ?_
    refine W_seq ?_
    refine W_region ?_
    refine WR_val rfl (rn_assign) ?_
    refine WR_nil ?_
    refine thenN ?_
    refine W_ret ?_
    refine ret_ret [_] ⟨rfl, trivial⟩ ?_
    have hXn : ¬ X = X0 := hne
    rw [if_neg hXn]
    exact ⟨rfl, ⟨_, h2.weak (fun b hb => by simp [hb])⟩, hLL⟩
  ·
    have hXn : X = X0 := hne
    rw [if_pos hXn]
    refine W_skip ?_
    refine thenN ?_
    refine W_seq ?_
    refine W_region ?_
    refine WR_val rfl (rn_assign) ?_
    refine WR_nil ?_
    refine thenN ?_
    refine W_ret ?_
    refine ret_ret [_] ⟨rfl, trivial⟩ ?_
    exact ⟨rfl, ⟨_, h.weak (fun b hb => by simp [hb])⟩, hLL⟩
end
end Go.Proofs.YtielfpkjoidomaaGreat
namespace Go.Proofs.YtielfpkjoidomaaGreat
open Go Go.RowKit Coup
def prsP (c : PgM) : Nat → Nat → List (Nat × Pg)
  | _, 0 => []
  | a, m + 1 => match c a with
    | some b => (a, b) :: prsP c (a + 1) m
    | none => prsP c (a + 1) m
theorem prs_keys (c : PgM) : ∀ (m a : Nat), keysOf (mapV c) a m = (prsP c a m).map fun p => (p.1 : Int)
  | 0, a => rfl
  | m + 1, a => by
    have ih := prs_keys c m (a + 1)
    rw [keysOf, prsP, ih]
    unfold mapV
    cases c a <;> rfl
theorem prs_mem {c : PgM} : ∀ {m a : Nat} {p : Nat × Pg}, p ∈ prsP c a m → c p.1 = some p.2 ∧ a ≤ p.1 ∧ p.1 < a + m
  | 0, a, p, h => nomatch h
  | m + 1, a, p, h => by
    rw [prsP] at h
    split at h
    · rcases List.mem_cons.1 h with rfl | h
      · exact ⟨‹_›, Nat.le_refl _, by omega⟩
      · have := prs_mem h; exact ⟨this.1, by omega, by omega⟩
    · have := prs_mem h; exact ⟨this.1, by omega, by omega⟩
theorem prs_len (c : PgM) : ∀ (m a : Nat), (prsP c a m).length ≤ m
  | 0, a => Nat.le_refl _
  | m + 1, a => by
    have := prs_len c m (a + 1)
    rw [prsP]
    split
    · rw [List.length_cons]; omega
    · omega
def wrAll (s : Nat) : Dk → List (Nat × Pg) → Dk × Bool
  | D, [] => (D, true)
  | D, p :: l => if (writesW D (1 + s + p.1 * 4) (secsOf p.2 4)).2 then wrAll s (writesW D (1 + s + p.1 * 4) (secsOf p.2 4)).1 l else ((writesW D (1 + s + p.1 * 4) (secsOf p.2 4)).1, false)
theorem wrAll_app (s : Nat) : ∀ (l m : List (Nat × Pg)) (D : Dk), wrAll s D (l ++ m) = if (wrAll s D l).2 then wrAll s (wrAll s D l).1 m else wrAll s D l
  | [], m, D => rfl
  | p :: l, m, D => by
    rw [List.cons_append, wrAll, wrAll]
    by_cases h : (writesW D (1 + s + p.1 * 4) (secsOf p.2 4)).2 = true
    · rw [if_pos h, if_pos h]; exact wrAll_app s l m _
    · rw [if_neg h, if_neg h]; rfl
theorem wrAll_len (s : Nat) : ∀ (l : List (Nat × Pg)) (D : Dk), (wrAll s D l).1.V.length = D.V.length
  | [], D => rfl
  | p :: l, D => by
    rw [wrAll]
    split
    · rw [wrAll_len s l, writesW_len]
    · exact writesW_len _ _ _
theorem wrAll_short (s : Nat) : ∀ (l : List (Nat × Pg)) (D : Dk) (k : Nat), shortD D k → shortD (wrAll s D l).1 (k + 4 * l.length)
  | [], D, k, h => h
  | p :: l, D, k, h => by
    have h1 := writesW_short (secsOf p.2 4) D (1 + s + p.1 * 4) k h
    rw [secsOf_len] at h1
    rw [wrAll, List.length_cons]
    split
    · exact short_of (wrAll_short s l _ _ h1) (by omega)
    · exact short_of h1 (by omega)
def truncR (D : Dk) (G : Lg) : Int × Dk × Lg :=
  if G.dead then (10, D, G) else if G.count = 4611686018427387904 then (8, D, G)
  else if saveE D (G.count + 1) (G.count + 1) then (0, saveD D (G.count + 1) (G.count + 1), truncG G) else (10, saveD D (G.count + 1) (G.count + 1), { G with dead := true })
theorem saveD_len (D : Dk) (c s : Nat) : (saveD D c s).V.length = D.V.length := by
  unfold saveD
  split
  · rw [flush_len, writeA_len]
  · exact writeA_len _ _ _
theorem truncR_same (D : Dk) (G : Lg) : (truncR D G).2.1.V.length = D.V.length ∧ (truncR D G).2.2.size = G.size := by
  unfold truncR
  split
  · exact ⟨rfl, rfl⟩
  · split
    · exact ⟨rfl, rfl⟩
    · split <;> exact ⟨saveD_len _ _ _, rfl⟩
def settleD (P : Pl) : Dk × Bool := wrAll P.G.size P.D (prsP P.di 0 P.n)
def settleR (P : Pl) : Int × Pl :=
  if (settleD P).2 then
    if stepOk (settleD P).1 then
      ((truncR (flushD (settleD P).1) P.G).1, { P with D := (truncR (flushD (settleD P).1) P.G).2.1, G := (truncR (flushD (settleD P).1) P.G).2.2, di := if (truncR (flushD (settleD P).1) P.G).1 = 0 then noP else P.di })
    else (10, { P with D := flushD (settleD P).1 })
  else (10, { P with D := (settleD P).1 })
section
variable {Y : World → List Nat → Prop} [Thing Y] {g x q mc md lo : Nat} {rv cv : Value} {L : List Nat} {P : Pl} {w w' : World}
omit [Thing Y] in
theorem PlAt.setDz {D : Dk} (h : PlAt g x q mc md rv cv Y lo L P w) (h2 : Two (DZ g D) Y lo (x :: (cv.ownBlock.toList ++ q :: mc :: md :: L)) w') (k : LoL lo (x :: (cv.ownBlock.toList ++ q :: mc :: md :: L)) w w') (hD : D.V.length = P.D.V.length) :
    PlAt g x q mc md rv cv Y lo L { P with D := D } w' ∧ LoL lo (q :: md :: L) w w' := by
  have k2 : LoL lo (cv.ownBlock.toList ++ q :: mc :: md :: L) w w' := k.weak (Nat.le_refl _) fun b hb => List.mem_cons_of_mem _ hb
  exact ⟨h.setLg ⟨h2, h.lg.rowx.kpd k.kp (notLL (.inr (List.mem_cons_self ..))), h.lg.ge, h.lg.ni⟩ k2 rfl hD, k.weak (Nat.le_refl _) fun b hb => by
    simp only [List.mem_cons] at hb
    rcases hb with hb | hb | hb <;> simp [hb]⟩
theorem writePl (h : PlAt g x q mc md rv cv Y lo L P w) (n : Nat) (X : Pg) (hX : X.length = 512) (hs : P.G.size ≤ 4000) (hn : 1 + P.G.size + n * 4 + 4 ≤ P.D.V.length) (hsh : shortD P.D 80000) :
    Calls Tryz.prog 45 [.pointer (some ⟨g, 0, none⟩), .int .i64 (P.G.size : Int), .int .i64 (n : Int), .agg (bv X).toArray].toArray w (Ret fun v w' => v = .int .i64 (if (writesW P.D (1 + P.G.size + n * 4) (secsOf X 4)).2 then 0 else 10) ∧ PlAt g x q mc md rv cv Y lo L { P with D := (writesW P.D (1 + P.G.size + n * 4) (secsOf X 4)).1 } w' ∧ LoL lo (q :: md :: L) w w') :=
  (writeP h.lg.two P.G.size n X hX hs hn hsh).to fun v w' ⟨e, h2, k⟩ => ⟨e, h.setDz h2 k (writesW_len _ _ _)⟩
theorem flushPl (h : PlAt g x q mc md rv cv Y lo L P w) :
    Calls Tryz.prog 66 [.pointer (some ⟨g, 0, none⟩)].toArray w (Ret fun v w' => v = .int .i64 (if stepOk P.D then 0 else 10) ∧ PlAt g x q mc md rv cv Y lo L { P with D := flushD P.D } w' ∧ LoL lo (q :: md :: L) w w') :=
  (tFlush h.lg.two).to fun v w' ⟨e, h2, k⟩ => ⟨e, h.setDz h2 k flush_len⟩
theorem truncPl (h : PlAt g x q mc md rv cv Y lo L P w) (hc : P.G.count ≤ 4611686018427387904) (hsh : shortD P.D 90000) :
    Calls Tryz.prog 67 [.pointer (some ⟨x, 0, none⟩)].toArray w (Ret fun v w' => v = .int .i64 (truncR P.D P.G).1 ∧ PlAt g x q mc md rv cv Y lo L { P with D := (truncR P.D P.G).2.1, G := (truncR P.D P.G).2.2 } w' ∧ LoL lo L w w') := by
  refine (trunc18 h.lg hc hsh).to fun v w' ⟨e, hv, k, hh⟩ => ?_
  have hr : e = (truncR P.D P.G).1 ∧ LgAt g x Y lo (cv.ownBlock.toList ++ q :: mc :: md :: L) (truncR P.D P.G).2.1 (truncR P.D P.G).2.2 w' := by
    unfold truncR
    rcases hh with ⟨h1, h2, h3⟩ | ⟨h1, h2, h3, h4⟩ | ⟨h1, h2, h3, h4, h5⟩ | ⟨h1, h2, h3, h4, h5⟩
    · rw [if_pos h1]; exact ⟨h2, h3⟩
    · rw [if_neg (by rw [h1]; simp), if_pos h2]; exact ⟨h3, h4⟩
    · rw [if_neg (by rw [h1]; simp), if_neg (by omega), if_neg (by rw [h3]; simp)]; exact ⟨h4, h5⟩
    · rw [if_neg (by rw [h1]; simp), if_neg (by omega), if_pos h3]; exact ⟨h4, h5⟩
  have hs := truncR_same P.D P.G
  exact ⟨by rw [hv, hr.1], h.setLg hr.2 k hs.2 hs.1, h.outLo k⟩
theorem PlAt.sl {p : Option Addr} {m sz : Nat} {cs : List Value} (h : PlAt g x q mc md rv cv Y lo L P w) (hb : Below w.heap.size w w') (hs : SlAt w' p m sz cs) (hsz : 0 < sz) (hf : ∀ b o, p = some ⟨b, o, none⟩ → w.heap.size ≤ b) :
    ∃ L2, (∀ b ∈ L, b ∈ L2) ∧ (0 < m → ∀ b o, p = some ⟨b, o, none⟩ → b ∈ L2) ∧ PlAt g x q mc md rv cv Y lo L2 P w' := by
  by_cases h0 : 0 < m
  · obtain ⟨gp, op, rfl, hl⟩ := hs.some (Nat.mul_pos h0 hsz)
    exact ⟨gp :: L, fun b hb => List.mem_cons_of_mem _ hb, fun _ b o e => by cases e; exact List.mem_cons_self .., h.newc hb (hf gp op rfl) hl⟩
  · exact ⟨L, fun b hb => hb, fun h1 => absurd h1 h0, h.new hb⟩
set_option maxRecDepth 20000 in
set_option maxHeartbeats 1000000 in
theorem settleP (h : PlAt g x q mc md cv cv Y lo L P w) (hok : PlOk P) (hsh : shortD P.D 70000) :
    Calls Tryz.prog 39 [.pointer (some ⟨q, 0, none⟩)].toArray w (Ret fun v w' => v = .int .i64 (settleR P).1 ∧ PlAt g x q mc md cv cv Y lo L (settleR P).2 w' ∧ LoL lo L w w') := by
  have hnl := h.nle.1
  have hml : maxLen = 9223372036854775807 := by decide
  have hsm := hok.lg.szm
  have hrm := fun n (hn : n < P.n) => (n_room hok hn).1
  have hkp : keysP P.di P.n = (prsP P.di 0 P.n).map fun p => (p.1 : Int) := prs_keys P.di P.n 0
  have hcm := hok.lg.cm
  have hDi := dirtyP h
  have hmem := fun (p : Nat × Pg) (hp : p ∈ prsP P.di 0 P.n) => prs_mem hp
  have hll := prs_len P.di P.n 0
  obtain ⟨R, hR⟩ : ∃ R, settleR P = R := ⟨_, rfl⟩
  rw [hR]
  unfold settleR settleD at hR
  obtain ⟨l, hl⟩ : ∃ l, prsP P.di 0 P.n = l := ⟨_, rfl⟩
  rw [hl] at hkp hmem hll
  simp only [hl] at hR
  have hkl : (keysP P.di P.n).length = l.length := by rw [hkp, List.length_map]
  obtain ⟨ks, hks⟩ : ∃ ks, keysP P.di P.n = ks := ⟨_, rfl⟩
  rw [hks] at hkp hDi hkl
  have hsl := wrAll_short P.G.size l P.D 70000 hsh
  have hB0 := Below.refl w.heap.size w
  refine calls_W (fn := Tryz.f39) (rs := [.tmp 2]) (n := 55) Tryz.func39 rfl rfl Tryz.ntmps39 (by kernel_rfl) rfl ?_
  refine W_seq ?_
  refine W_region ?_
  refine WR_val rfl (rn_assign) ?_
  refine WR_nil ?_
  refine thenN ?_
  refine W_seq ?_
  refine W_seq ?_
  refine W_region ?_
  refine WR_val rfl (rn_move) ?_
  refine WR_ent rfl (rn_call (by kernel_rfl) rfl) (hDi) ?_
  rintro _ w9 ⟨⟨p, c, rfl, hks1, hpb⟩, hb9⟩
  replace hB0 := hB0.acc hb9
  refine WR_val rfl (rn_lenSl (e := 3) (sz := 1) (by kernel_rfl) rfl rfl) ?_
  refine WR_val rfl (rn_move) ?_
  refine WR_nil ?_
  refine thenN ?_
  refine W_block ?_
  have hN := h.sl hB0 hks1 (by omega) hpb
  obtain ⟨L2, hL12, hpL, hP⟩ := hN
  have hLL := LoL.refl lo L2 w9
  have hlt0 := hP.ltL
  refine W_loop (α := Nat) 0 (fun i => [(11, .int .i64 (i : Nat)), (10, .int .i64 (ks.length : Int)), (9, .slice p ks.length c), (0, .pointer (some ⟨q, 0, none⟩))])
    (fun i w' => i ≤ l.length ∧ (wrAll P.G.size P.D (l.take i)).2 = true ∧ PlAt g x q mc md cv cv Y lo L2 { P with D := (wrAll P.G.size P.D (l.take i)).1 } w' ∧ SlAt w' p ks.length 1 (iv ks) ∧ LoL lo L2 w9 w') (fun i => l.length - i)
    ⟨rfl, rfl, rfl, rfl, rfl⟩ ⟨Nat.zero_le _, rfl, hP, hks1, hLL⟩ ?_
  clear hP hks1 hLL
  rintro i f wr ⟨hi, hwok, hP, hks1, hLL⟩
  have hwl := wrAll_len P.G.size (l.take i) P.D
  have hws := wrAll_short P.G.size (l.take i) P.D 70000 hsh
  rw [List.length_take] at hws
  refine W_seq ?_
  refine W_region ?_
  refine WR_val rfl (rn_lss rfl rfl) ?_
  refine WR_nil ?_
  refine thenN ?_
  refine W_seq ?_
  refine W_ifp rfl (fun hlt => ?_) (fun hlt => ?_)
  ·
    refine W_skip ?_
    refine thenN ?_
    refine W_seq ?_
    refine W_block ?_
    refine W_seq ?_
    have hob : ∃ pr, l[i]? = some pr := ⟨_, List.getElem?_eq_getElem (by omega)⟩
    obtain ⟨⟨n, X⟩, hpr⟩ := hob
    have hki : ks[i]? = some (n : Int) := by rw [hkp, List.getElem?_map, hpr]; rfl
    have hm3 := hmem _ (List.mem_of_getElem? hpr)
    dsimp only at hm3
    have hXl := hok.di n X hm3.1
    have hnN : n < P.n := by omega
    have hrn := hrm n hnN
    have hobg := hks1.some (by omega)
    obtain ⟨gp, op, hgp, hgpl⟩ := hobg
    subst hgp
    have hgpL : gp ∈ L2 := hpL (by omega) gp op rfl
    have htk : l.take (i + 1) = l.take i ++ [(n, X)] := by rw [List.take_add_one, hpr]; rfl
    have hap := wrAll_app P.G.size (l.take i) [(n, X)] P.D
    rw [← htk, if_pos hwok] at hap
    have hvv : (mapV P.di n).getD (.agg zP.toArray) = .agg (bv X).toArray := by unfold mapV; rw [hm3.1]; rfl
    have hq := hP.row
    unfold plV at hq
    have hd : MapAt Tryz.prog 3 wr md P.n (mapV P.di) := by
      have h1 := hP.mdi
      unfold Pl.n at h1 ⊢
      dsimp only at h1
      rw [hwl] at h1
      exact h1
    refine W_region ?_
    refine WR_val rfl (rn_indexSl1 (e := 3) (by kernel_rfl) rfl rfl (i) (by omega) (by omega)) ?_
    refine WR_val rfl (rn_load rfl (Ld.sl1 hks1 (by kernel_rfl) (iv_some hki))) ?_
    refine WR_val rfl (rn_assign) ?_
    refine WR_nil ?_
    refine thenN ?_
    refine W_seq ?_
    refine W_drawL (lo) ((q :: md :: L2)) (by kernel_rfl) ?_
    intro w901 hb901 hn901 hS901
    replace hP := hP.new hb901
    replace hLL := hLL.new hb901
    replace hks1 := hks1.new hb901
    replace hq := hq.new hb901
    replace hd := hd.new hb901
    have hP_d901 := hP
    have hLL_d901 := hLL
    have hks1_d901 := hks1
    have hq_d901 := hq
    have hd_d901 := hd
    refine WA_take 0 (by kernel_rfl) rfl (fun _ _ => rn_move) ?_
    refine WA_take 1 (by kernel_rfl) rfl (fun _ _ => rn_nilCheckP rfl) ?_
    refine WA_take 2 (by kernel_rfl) rfl (fun _ _ => rn_fieldAddr (off := 0) (by kernel_rfl) rfl) ?_
    refine WA_take 3 (by kernel_rfl) rfl (fun w' hS' => rn_load rfl (Ld.row1 (hq_d901.kpd hS' (by first | (simp; done) | (simp; omega) | (simp [*]; done) | exact notLL (Or.inl (by omega)) | exact notLL (Or.inr (by simp)) | exact fun g hm => Nat.le_trans (by omega) (inLL hm).1 | (intro b o e; cases e; exact notLL (Or.inl (by omega))) | (intro b hm; have := (hu.lt b (Option.mem_toList.1 hm)).1; omega) | (intro b o e; cases e; intro hm; have := (hu.lt _ (Option.mem_toList.1 hm)).1; omega))) (by kernel_rfl) rfl)) ?_
    refine WA_take 4 (by kernel_rfl) rfl (fun _ _ => rn_move) ?_
    refine WA_take 5 (by kernel_rfl) rfl (fun _ _ => rn_nilCheckP rfl) ?_
    refine WA_take 6 (by kernel_rfl) rfl (fun _ _ => rn_fieldAddr (off := 2) (by kernel_rfl) rfl) ?_
    refine WA_take 7 (by kernel_rfl) rfl (fun w' hS' => rn_load rfl (Ld.row1 (hq_d901.kpd hS' (by first | (simp; done) | (simp; omega) | (simp [*]; done) | exact notLL (Or.inl (by omega)) | exact notLL (Or.inr (by simp)) | exact fun g hm => Nat.le_trans (by omega) (inLL hm).1 | (intro b o e; cases e; exact notLL (Or.inl (by omega))) | (intro b hm; have := (hu.lt b (Option.mem_toList.1 hm)).1; omega) | (intro b o e; cases e; intro hm; have := (hu.lt _ (Option.mem_toList.1 hm)).1; omega))) (by kernel_rfl) rfl)) ?_
    refine WA_take 8 (by kernel_rfl) rfl (fun _ _ => rn_move) ?_
    refine WA_take 9 (by kernel_rfl) rfl (fun _ _ => rn_move) ?_
    refine WA_take 10 (by kernel_rfl) rfl (fun _ _ => rn_nilCheckP rfl) ?_
    refine WA_take 11 (by kernel_rfl) rfl (fun _ _ => rn_fieldAddr (off := 5) (by kernel_rfl) rfl) ?_
    refine WA_take 12 (by kernel_rfl) rfl (fun w' hS' => rn_load rfl (Ld.row1 (hq_d901.kpd hS' (by first | (simp; done) | (simp; omega) | (simp [*]; done) | exact notLL (Or.inl (by omega)) | exact notLL (Or.inr (by simp)) | exact fun g hm => Nat.le_trans (by omega) (inLL hm).1 | (intro b o e; cases e; exact notLL (Or.inl (by omega))) | (intro b hm; have := (hu.lt b (Option.mem_toList.1 hm)).1; omega) | (intro b o e; cases e; intro hm; have := (hu.lt _ (Option.mem_toList.1 hm)).1; omega))) (by kernel_rfl) rfl)) ?_
    refine WA_take 13 (by kernel_rfl) rfl (fun _ _ => rn_move) ?_
    refine WA_take 14 (by kernel_rfl) rfl (fun w' hS' => rn_lookupV (k := 3) (e := 37) ((.agg zP.toArray)) (by kernel_rfl) (by kernel_rfl) (by intro w; first | kernel_rfl | rfl) (hd_d901.kpd hS' (by first | (simp; done) | (simp; omega) | (simp [*]; done) | exact notLL (Or.inl (by omega)) | exact notLL (Or.inr (by simp)) | exact fun g hm => Nat.le_trans (by omega) (inLL hm).1 | (intro b o e; cases e; exact notLL (Or.inl (by omega))) | (intro b hm; have := (hu.lt b (Option.mem_toList.1 hm)).1; omega) | (intro b o e; cases e; intro hm; have := (hu.lt _ (Option.mem_toList.1 hm)).1; omega))) rfl rfl (n) (by first | rfl | omega) (by omega) (by omega) hvv) ?_
    refine WA_one 15 (by kernel_rfl) ?_
    have hwp := writePl hP n X hXl hsm (by dsimp only; omega) (short_of hws (by omega))
    dsimp only at hwp
    refine WO_ent rfl rfl (rn_call (by kernel_rfl) rfl) (hwp) ?_
    rintro _ w30 ⟨rfl, hP, hb30⟩
    have hS902 := hS901.addLL hn901 hb30
    refine ⟨hS902, ?_⟩
    replace hLL := hLL.ll hb30 (by first | (intro b hb; exact hb) | (intro b hb; simp [hb]; done) | simp)
    replace hks1 := hks1.kpd hb30.kp (by first | (refine notLL ?_; left; omega) | (refine notLL ?_; right; simp; done) | (intro b o e; cases e; first | (refine notLL ?_; left; omega) | (refine notLL ?_; right; simp; done) | (refine notLL ?_; right; simp [*]; done)) | (intro b hb; refine notLL ?_; left; omega) | (intro b hb e; cases e; exact notLL (by right; simp [*]) hb))
    refine WA_take 16 (by kernel_rfl) rfl (fun _ _ => rn_assign) ?_
    refine WA_done (by kernel_rfl) ?_
    refine thenN ?_
    refine W_seq ?_
    refine W_region ?_
    refine WR_val rfl (rn_move) ?_
    refine WR_val rfl (rn_neq rfl rfl) ?_
    refine WR_nil ?_
    refine thenN ?_
    refine W_ifp rfl (fun hne => ?_) (fun hne => ?_)
    ·
      refine W_seq ?_
      refine W_region ?_
      refine WR_val rfl (rn_move) ?_
      refine WR_val rfl (rn_assign) ?_
      refine WR_nil ?_
      refine thenN ?_
      refine W_ret ?_
      refine blockR ?_
      refine thenR ?_
      refine loopR ?_
      refine blockR ?_
      refine thenR ?_
      refine ret_ret [_] ⟨rfl, trivial⟩ ?_
      have hf : (writesW (wrAll P.G.size P.D (l.take i)).1 (1 + P.G.size + n * 4) (secsOf X 4)).2 = false := by cases hq : (writesW (wrAll P.G.size P.D (l.take i)).1 (1 + P.G.size + n * 4) (secsOf X 4)).2 with | false => rfl | true => simp [hq] at hne
      have hbad : wrAll P.G.size P.D l = ((writesW (wrAll P.G.size P.D (l.take i)).1 (1 + P.G.size + n * 4) (secsOf X 4)).1, false) := by
        have h1 := wrAll_app P.G.size (l.take (i + 1)) (l.drop (i + 1)) P.D
        have h2 : wrAll P.G.size P.D (l.take (i + 1)) = ((writesW (wrAll P.G.size P.D (l.take i)).1 (1 + P.G.size + n * 4) (secsOf X 4)).1, false) := by
          rw [hap, wrAll, if_neg (by rw [hf]; simp)]
        rw [List.take_append_drop, h2, if_neg (by simp)] at h1
        exact h1
      rw [hbad, if_neg (by simp)] at hR
      subst hR
      refine ⟨by rw [hf]; rfl, hP.weak hL12, ?_⟩
      exact (LoL.of_below hB0).ll hLL hL12
    ·
      have hf : (writesW (wrAll P.G.size P.D (l.take i)).1 (1 + P.G.size + n * 4) (secsOf X 4)).2 = true := by cases hq : (writesW (wrAll P.G.size P.D (l.take i)).1 (1 + P.G.size + n * 4) (secsOf X 4)).2 with | true => rfl | false => simp [hq] at hne
      rw [wrAll, if_pos hf, wrAll] at hap
      refine W_skip ?_
      refine blockN ?_
      refine thenN ?_
      refine W_region ?_
      refine WR_val rfl (rn_add rfl rfl (Coup.w64 (by omega))) ?_
      refine WR_val rfl (rn_move) ?_
      refine WR_nil ?_
      refine loopN ⟨i + 1, by omega, ⟨by go_num, rfl, rfl, rfl, rfl⟩, by omega, by rw [hap], by rw [hap]; exact hP, hks1, hLL⟩
  ·
    have hil : i = l.length := by omega
    subst hil
    rw [List.take_length] at hP hwok
    rw [List.take_length] at hwl
    rw [if_pos hwok] at hR
    have hobt : ∃ D1, (wrAll P.G.size P.D l).1 = D1 := ⟨_, rfl⟩
    obtain ⟨D1, hD1⟩ := hobt
    rw [hD1] at hP hwl hsl hR
    have hfl := flushPl hP
    dsimp only at hfl
    have hq := hP.row
    unfold plV at hq
    obtain ⟨hdl, hdL⟩ := hP.mdl
    refine W_exit ?_
    refine thenX ?_
    refine loopX ?_
    refine blockX ?_
    refine thenN ?_
    refine W_seq ?_
    refine W_seq ?_
    refine W_region ?_
    refine WR_val rfl (rn_move) ?_
    refine WR_val rfl (rn_nilCheckP rfl) ?_
    refine WR_val rfl (rn_fieldAddr (off := 0) (by kernel_rfl) rfl) ?_
    refine WR_val rfl (rn_load rfl (Ld.row1 hq (by kernel_rfl) rfl)) ?_
    refine WR_ent rfl (rn_call (by kernel_rfl) rfl) (hfl) ?_
    rintro _ w39 ⟨rfl, hP, hb39⟩
    replace hLL := hLL.ll hb39 (by first | (intro b hb; exact hb) | (intro b hb; simp [hb]; done) | simp)
    refine WR_val rfl (rn_assign) ?_
    refine WR_nil ?_
    refine thenN ?_
    refine W_seq ?_
    refine W_region ?_
    refine WR_val rfl (rn_move) ?_
    refine WR_val rfl (rn_neq rfl rfl) ?_
    refine WR_nil ?_
    refine thenN ?_
    refine W_ifp rfl (fun hne => ?_) (fun hne => ?_)
    ·
      refine W_seq ?_
      refine W_region ?_
      refine WR_val rfl (rn_move) ?_
      refine WR_val rfl (rn_assign) ?_
      refine WR_nil ?_
      refine thenN ?_
      refine W_ret ?_
      refine thenR ?_
      refine ret_ret [_] ⟨rfl, trivial⟩ ?_
      have hf : stepOk D1 = false := by cases hq : stepOk D1 with | false => rfl | true => simp [hq] at hne
      rw [if_neg (by rw [hf]; simp)] at hR
      subst hR
      exact ⟨by rw [hf]; rfl, hP.weak hL12, (LoL.of_below hB0).ll hLL hL12⟩
    ·
      have hf : stepOk D1 = true := by cases hq : stepOk D1 with | true => rfl | false => simp [hq] at hne
      rw [if_pos hf] at hR
      have htr := truncPl hP hcm (fun v hv => by
        rw [flushD, if_pos hf] at hv
        obtain ⟨u, _, rfl⟩ := List.mem_map.1 hv
        show 1 ≤ 90000
        omega)
      dsimp only at htr
      have htl := truncR_same (flushD D1) P.G
      have hobt : ∃ t, truncR (flushD D1) P.G = t := ⟨_, rfl⟩
      obtain ⟨⟨te, tD, tG⟩, htR⟩ := hobt
      simp only [htR] at htr htl hR
      have hq := hP.row
      unfold plV at hq
      refine W_skip ?_
      refine thenN ?_
      refine W_seq ?_
      refine W_seq ?_
      refine W_region ?_
      refine WR_val rfl (rn_move) ?_
      refine WR_val rfl (rn_nilCheckP rfl) ?_
      refine WR_val rfl (rn_fieldAddr (off := 1) (by kernel_rfl) rfl) ?_
      refine WR_val rfl (rn_load rfl (Ld.row1 hq (by kernel_rfl) rfl)) ?_
      refine WR_ent rfl (rn_call (by kernel_rfl) rfl) (htr) ?_
      rintro _ w47 ⟨rfl, hP, hb47⟩
      replace hLL := hLL.ll hb47 (by first | (intro b hb; exact hb) | (intro b hb; simp [hb]; done) | simp)
      refine WR_val rfl (rn_assign) ?_
      refine WR_nil ?_
      refine thenN ?_
      refine W_seq ?_
      refine W_region ?_
      refine WR_val rfl (rn_move) ?_
      refine WR_val rfl (rn_neq rfl rfl) ?_
      refine WR_nil ?_
      refine thenN ?_
      refine W_ifp rfl (fun hne => ?_) (fun hne => ?_)
      ·
        refine W_seq ?_
        refine W_region ?_
        refine WR_val rfl (rn_move) ?_
        refine WR_val rfl (rn_assign) ?_
        refine WR_nil ?_
        refine thenN ?_
        refine W_ret ?_
        refine thenR ?_
        refine ret_ret [_] ⟨rfl, trivial⟩ ?_
        have hf2 : ¬ te = 0 := hne
        rw [if_neg hf2] at hR
        subst hR
        exact ⟨rfl, hP.weak hL12, (LoL.of_below hB0).ll hLL hL12⟩
      ·
        have hf2 : te = 0 := by simpa using hne
        rw [if_pos hf2] at hR
        subst hR
        have hq := hP.row
        unfold plV at hq
        refine W_skip ?_
        refine thenN ?_
        refine W_seq ?_
        refine W_region ?_
        refine WR_val rfl (rn_move) ?_
        refine WR_val rfl (rn_nilCheckP rfl) ?_
        refine WR_val rfl (rn_fieldAddr (off := 5) (by kernel_rfl) rfl) ?_
        refine WR_val rfl (rn_load rfl (Ld.row1 hq (by kernel_rfl) rfl)) ?_
        have hd := hP.mdi
        refine WR_mk rfl (mk_clearMap (k := 3) (e := 37) (by kernel_rfl) hd rfl (fun w903 hd ho903 => ?_))
        replace hLL := hLL.only ho903 (by first | omega | (right; exact ⟨by omega, by assumption⟩))
        have hP2 := hP.setDi (c := noP) hd ho903
        refine WR_nil ?_
        refine thenN ?_
        refine W_seq ?_
        refine W_region ?_
        refine WR_val rfl (rn_assign) ?_
        refine WR_nil ?_
        refine thenN ?_
        refine W_ret ?_
        refine ret_ret [_] ⟨rfl, trivial⟩ ?_
        exact ⟨by rw [hf2]; rfl, hP2.weak hL12, (LoL.of_below hB0).ll hLL hL12⟩
end
end Go.Proofs.YtielfpkjoidomaaGreat
namespace Go.Proofs.YtielfpkjoidomaaGreat
open Go Go.RowKit Coup
theorem kvL_prs (c : PgM) : ∀ (m a : Nat), (kvL (mapV c) a m).length = (prsP c a m).length
  | 0, a => rfl
  | m + 1, a => by
    have ih := kvL_prs c m (a + 1)
    rw [kvL, prsP]
    have e : mapV c a = (c a).map pgV := rfl
    rw [e]
    cases c a with
    | some b => simp only [Option.map_some, List.length_cons, ih]
    | none => simpa using ih
def keepR (e : Int) (P : Pl) : Pl := { P with dead := P.dead || decide (e = 10) }
def checkR (P : Pl) : Int × Pl := if (prsP P.ch 0 P.n).length = 0 then ((settleR P).1, keepR (settleR P).1 (settleR P).2) else (17, P)
section
variable {Y : World → List Nat → Prop} [Thing Y] {g x q mc md lo : Nat} {rv cv : Value} {L : List Nat} {P : Pl} {w w' : World}
set_option maxRecDepth 20000 in
theorem checkP (h : PlAt g x q mc md cv cv Y lo L P w) (hok : PlOk P) (hde : P.dead = false) (hsh : shortD P.D 70000) : Calls Tryz.prog 19 [.pointer (some ⟨q, 0, none⟩)].toArray w (Ret fun v w' => v = .int .i64 (checkR P).1 ∧ PlAt g x q mc md cv cv Y lo L (checkR P).2 w' ∧ LoL lo L w w') := by
  have hLL := LoL.refl lo L w
  have hn4 := hok.n4
  have hrd := readyP h hok.lg.szm 0
  unfold readyE at hrd
  have hin : (0 : Int) ≤ 0 ∧ (0 : Int) < (P.n : Int) := by omega
  rw [hde, if_neg (by simp), if_pos hin] at hrd
  have hst := fun w' (h' : PlAt g x q mc md cv cv Y lo L P w') => settleP h' hok hsh
  obtain ⟨R, hR⟩ : ∃ R, checkR P = R := ⟨_, rfl⟩
  rw [hR]
  unfold checkR at hR
  obtain ⟨⟨e, P2⟩, hse⟩ : ∃ p, settleR P = p := ⟨_, rfl⟩
  simp only [hse] at hst hR
  have hkp := fun w' (h' : PlAt g x q mc md cv cv Y lo L P2 w') => keepP h' e
  have hkv := kvL_prs P.ch P.n 0
  have hq := h.row
  unfold plV at hq
  have hm := h.mch
  refine calls_W (fn := Tryz.f19) (rs := [.tmp 2]) (n := 19) Tryz.func19 rfl rfl Tryz.ntmps19 (by kernel_rfl) rfl ?_
  refine W_seq ?_
  refine W_region ?_
  refine WR_val rfl (rn_assign) ?_
  refine WR_nil ?_
  refine thenN ?_
  refine W_seq ?_
  refine W_seq ?_
  refine W_region ?_
  refine WR_val rfl (rn_move) ?_
  refine WR_ent rfl (rn_call (by kernel_rfl) rfl) (hrd) ?_
  rintro _ w5 ⟨rfl, hb5⟩
  replace h := h.new hb5
  replace hq := hq.new hb5
  replace hm := hm.new hb5
  replace hLL := hLL.new hb5
  refine WR_val rfl (rn_assign) ?_
  refine WR_nil ?_
  refine thenN ?_
  refine W_seq ?_
  refine W_region ?_
  refine WR_val rfl (rn_move) ?_
  refine WR_val rfl (rn_neq rfl rfl) ?_
  refine WR_nil ?_
  refine thenN ?_
  refine W_fp rfl ((by simp)) ?_
  refine W_skip ?_
  refine thenN ?_
  refine W_seq ?_
  refine W_seq ?_
  refine W_region ?_
  refine WR_val rfl (rn_move) ?_
  refine WR_val rfl (rn_nilCheckP rfl) ?_
  refine WR_val rfl (rn_fieldAddr (off := 4) (by kernel_rfl) rfl) ?_
  refine WR_val rfl (rn_load rfl (Ld.row1 hq (by kernel_rfl) rfl)) ?_
  refine WR_val rfl (rn_lenMap (k := 3) (e := 37) (by kernel_rfl) hm rfl) ?_
  refine WR_val rfl (rn_gtr rfl rfl) ?_
  refine WR_nil ?_
  refine thenN ?_
  refine W_ifp rfl (fun hgt => ?_) (fun hgt => ?_)
  ·
    refine W_seq ?_
    refine W_region ?_
    refine WR_val rfl (rn_assign) ?_
    refine WR_nil ?_
    refine thenN ?_
    refine W_ret ?_
    refine thenR ?_
    refine ret_ret [_] ⟨rfl, trivial⟩ ?_
    have hne : ¬ (prsP P.ch 0 P.n).length = 0 := by rw [← hkv]; omega
    rw [if_neg hne] at hR
    subst hR
    exact ⟨rfl, h, hLL⟩
  ·
    have hne : (prsP P.ch 0 P.n).length = 0 := by rw [← hkv]; omega
    rw [if_pos hne] at hR
    subst hR
    refine W_skip ?_
    refine thenN ?_
    refine W_seq ?_
    refine W_region ?_
    refine WR_val rfl (rn_move) ?_
    refine WR_val rfl (rn_move) ?_
    refine WR_ent rfl (rn_call (by kernel_rfl) rfl) (hst w5 h) ?_
    rintro _ w17 ⟨rfl, h, hb17⟩
    replace hLL := hLL.ll hb17 (by first | (intro b hb; exact hb) | (intro b hb; simp [hb]; done) | simp)
    refine WR_ent rfl (rn_call (by kernel_rfl) rfl) (hkp w17 h) ?_
    rintro _ w18 ⟨rfl, h, hb18⟩
    replace hLL := hLL.ll hb18 (by first | (intro b hb; exact hb) | (intro b hb; simp [hb]; done) | simp)
    refine WR_val rfl (rn_assign) ?_
    refine WR_nil ?_
    refine thenN ?_
    refine W_ret ?_
    refine ret_ret [_] ⟨rfl, trivial⟩ ?_
    exact ⟨rfl, h, hLL⟩
end
end Go.Proofs.YtielfpkjoidomaaGreat
