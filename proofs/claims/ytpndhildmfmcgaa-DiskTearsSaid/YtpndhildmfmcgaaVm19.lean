/- Going over a map from small numbers, in whatever order; a store at the key that has come, in the round. -/
import Derived.Test.YtpndhildmfmcgaaVm18
import Derived.Test.YtpndhildmfmcgaaVm15
import Derived.Maps.RangeWalk
namespace Coup
open Go Go.RowKit Go.Maps Go.ChangeMaps Go.MapKept Go.WideElems

theorem left_count (a : Array MapEntry) (seen : Array Nat) : (leftOf a seen).size = ((a.toList.map (·.born)).filter fun b => !seen.contains b).length := by
  unfold leftOf
  rw [← Array.length_toList, Array.toList_filter, List.filter_map, List.length_map]
  rfl
section
variable {H : Type} {P : Program} {k : TypeId} {R : Value → Option (DataW H × List MemPlace)} {w : World} {b r n : Nat} {D : DataW H} {left : Lit → Bool} {cnt : Nat}
/-- A store at a key that is there, in the round. -/
theorem ranges_store {t e : TypeId} (h : w.ranges P k R b r n D left cnt) (K : Keyed P k) (ht : P.underlying t = some (.map k e)) (hn : n < maxLen) {key val : Value} {kl : Lit} {d : DataW H} {ps : List MemPlace}
    (hkey : keyOf P k key = some kl) (hv : R val = some (d, ps)) {l : List (Lit × DataW H)} (hD : D = .map l) {z : DataW H} (hin : (kl, z) ∈ l) :
    ∃ w', (Instr.mapUpdate t (.map (some b)) key val).run P w = .ok () w' ∧ w'.ranges P k R b r (n + 1) (D.put kl d) left cnt ∧ w.mapTurned w' b := by
  have hne := h.ne
  obtain ⟨es, clock, since, seen, c0, hb, F, hs, rfl, hr, hold, rfl, hl1, hl2, hsc, hsk⟩ := h
  obtain ⟨es', clock', hrun, F', hput, _, _, hwho⟩ := Maps.fit_store (R' := R) K ht hb F (Nat.lt_of_le_of_lt hs hn) (fun _ _ _ _ hz => hz) hkey hv
  injection hD with hD
  rw [← hD] at hin
  obtain ⟨x0, hx0, hx0e⟩ := List.mem_map.1 (mem_sorted.1 hin)
  obtain ⟨y0, hy0⟩ := F.reads x0 hx0
  have hk0 : x0.key = key := by
    have h1 := rd_key hy0
    rw [rg_of hy0] at hx0e
    have h2 : y0.1 = kl := congrArg Prod.fst hx0e
    rw [h2] at h1
    exact K.inj h1 hkey
  rcases K.find w hkey es.toList F.keys with ⟨_, h2⟩ | ⟨j, e0, h1, h2, h3⟩
  · exact absurd hk0 (h2 x0 hx0)
  have hj : es[j]? = some e0 := by simpa using h2
  have hjl : j < es.toList.length := (List.getElem?_eq_some_iff.1 h2).1
  have hlist : (es.modify j (fun e' => { e' with key := key, val := val })).toList = es.toList.set j { e0 with key := key, val := val } := by rw [Array.toList_modify, modify_eq_set _ _ _ _ h2]
  have hrun2 : (Instr.mapUpdate t (.map (some b)) key val).run P w = .ok () (setBlock w b (.map (es.modify j (fun e' => { e' with key := key, val := val })) clock)) := by
    simp [Instr.mapUpdate, run_underlying ht, MapKept.run_getObj_map hb, K.check w false hkey, h1, hj, h3, K.stays w hkey, MapKept.run_setObj_map _ hb, Result.andThen, setBlock]
  have hew : setBlock w b (.map es' clock') = setBlock w b (.map (es.modify j (fun e' => { e' with key := key, val := val })) clock) := by
    have := hrun.symm.trans hrun2
    injection this
  have hee := (heap_setBlock_same hb (.map es' clock')).symm.trans (hew ▸ heap_setBlock_same hb (.map (es.modify j (fun e' => { e' with key := key, val := val })) clock))
  injection hee with hee
  injection hee with hee hcc
  have hl : es'.toList = es.toList.set j { e0 with key := key, val := val } := by rw [hee, hlist]
  have he0 : e0 ∈ es.toList := List.mem_of_getElem? h2
  have hborn : es'.toList.map (·.born) = es.toList.map (·.born) := by
    rw [hl, List.map_set]
    refine List.ext_getElem? fun i => ?_
    rw [List.getElem?_set]
    by_cases hi : j = i
    · subst hi
      rw [if_pos rfl, if_pos (by simpa using hjl), List.getElem?_map, h2]; rfl
    · rw [if_neg hi]
  have hmem : ∀ x ∈ es'.toList, x = { e0 with key := key, val := val } ∨ x ∈ es.toList := fun x hx => by
    rw [hl] at hx
    exact (List.mem_or_eq_of_mem_set hx).symm
  obtain ⟨y1, hy1⟩ := F.reads e0 he0
  have hrg0 : (rg P k R e0).1 = kl := by
    have h4 := rd_key hy1
    rw [h3, hkey] at h4
    rw [rg_of hy1]
    exact (Option.some.inj h4).symm
  have hrgN : (rg P k R { e0 with key := key, val := val }).1 = kl := by rw [rg_of (rd_mk hkey hv)]
  refine ⟨_, hrun, ⟨es', clock', since, seen, c0, heap_setBlock_same hb _, F', ?_, by rw [DataW.put_eq, hput], (heap_setBlock_other hb _ hne).trans hr, fun x hx => ?_, ?_, fun x hx => ?_, fun q hq => ?_, hsc, by rw [hcc]; exact hsk⟩, ⟨es, clock, es', clock', hb, rfl⟩⟩
  · have := congrArg List.length hborn
    simp at this
    omega
  · rcases hmem x hx with rfl | hx
    · exact hold e0 he0
    · exact hold x hx
  · rw [left_count, left_count, hborn]
  · rcases hmem x hx with rfl | hx
    · rw [hrgN, ← hrg0, hl1 e0 he0]
    · exact hl1 x hx
  · obtain ⟨x, hx, rfl⟩ := hl2 q hq
    obtain ⟨i, hi⟩ := List.getElem?_of_mem hx
    by_cases hij : j = i
    · subst hij
      rw [h2] at hi
      cases hi
      exact ⟨{ e0 with key := key, val := val }, by rw [hl]; exact List.mem_iff_getElem?.2 ⟨j, by rw [List.getElem?_set, if_pos rfl, if_pos hjl]⟩, by rw [hrgN, hrg0]⟩
    · exact ⟨x, by rw [hl]; exact List.mem_iff_getElem?.2 ⟨i, by rw [List.getElem?_set, if_neg hij]; exact hi⟩, rfl⟩
theorem ranges_key (h : w.ranges P k R b r n D left cnt) {kl : Lit} (hl : left kl = true) {l : List (Lit × DataW H)} (hD : D = .map l) : ∃ z, (kl, z) ∈ l := by
  obtain ⟨es, clock, since, seen, c0, hb, F, hs, rfl, hr, hold, rfl, hl1, hl2, hsc, hsk⟩ := h
  obtain ⟨x, hx, rfl⟩ := hl2 kl hl
  injection hD with hD
  exact ⟨(rg P k R x).2, by rw [← hD]; exact mem_sorted.2 (List.mem_map.2 ⟨x, hx, rfl⟩)⟩
theorem ranges_same {w' : World} (h : w.ranges P k R b r n D left cnt) (h1 : w'.heap[b]? = w.heap[b]?) (h2 : w'.heap[r]? = w.heap[r]?) : w'.ranges P k R b r n D left cnt := by
  obtain ⟨es, clock, since, seen, c0, hb, F, hs, hD, hr, rest⟩ := h
  exact ⟨es, clock, since, seen, c0, h1.trans hb, F, hs, hD, h2.trans hr, rest⟩
theorem ranges_tight {N : Nat} {l : List (Lit × DataW H)} (h : w.ranges P k R b r n (.map l) left cnt) (hN : l.length ≤ N) : w.ranges P k R b r N (.map l) left cnt := by
  obtain ⟨es, clock, since, seen, c0, hb, F, hs, hD, rest⟩ := h
  refine ⟨es, clock, since, seen, c0, hb, F, ?_, hD, rest⟩
  have h1 : l = (es.toList.map (Go.WideElems.rg P k R)).foldr DataW.insert [] := by injection hD
  have h2 := length_sorted (es.toList.map (Go.WideElems.rg P k R))
  rw [← h1] at h2
  simp at h2
  omega
end
theorem kvL_mem' {f : Nat → Option Value} : ∀ {m a : Nat} {x : Lit × DataW Value}, x ∈ kvL f a m → ∃ i v, a ≤ i ∧ i < a + m ∧ f i = some v ∧ x = (.int .i64 (i : Int), .held v)
  | 0, a, x, h => by simp [kvL] at h
  | m + 1, a, x, h => by
    rw [kvL] at h
    split at h
    · rename_i v hv
      rcases List.mem_cons.1 h with rfl | h
      · exact ⟨a, v, Nat.le_refl _, by omega, hv, rfl⟩
      · obtain ⟨i, v, h1, h2, h3, h4⟩ := kvL_mem' h; exact ⟨i, v, by omega, by omega, h3, h4⟩
    · obtain ⟨i, v, h1, h2, h3, h4⟩ := kvL_mem' h; exact ⟨i, v, by omega, by omega, h3, h4⟩
theorem mem_kvL {f : Nat → Option Value} {i : Nat} {v : Value} : ∀ {m a : Nat}, f i = some v → a ≤ i → i < a + m → (Lit.int .i64 (i : Int), DataW.held v) ∈ kvL f a m
  | 0, a, hf, h1, h2 => by omega
  | m + 1, a, hf, h1, h2 => by
    rw [kvL]
    by_cases h : a = i
    · subst h; rw [hf]; exact List.mem_cons_self ..
    · have ih := mem_kvL (m := m) (a := a + 1) hf (by omega) (by omega)
      split
      · exact List.mem_cons_of_mem _ ih
      · exact ih
theorem has_kvL {f : Nat → Option Value} {i N : Nat} (hi : i < N) : Maps.has (DataW.map (kvL f 0 N)) (.int .i64 (i : Int)) = (f i).isSome := by
  cases hf : f i with
  | some v => exact List.any_eq_true.2 ⟨_, mem_kvL hf (Nat.zero_le _) (by omega), by rw [same_int]; simp⟩
  | none =>
    refine List.any_eq_false.2 fun x hx => ?_
    obtain ⟨j, v, h1, h2, h3, rfl⟩ := kvL_mem' hx
    rw [same_int]
    simp
    rintro rfl
    rw [hf] at h3; cases h3
/-- The map in m is gone over by r: it holds f at the keys below N; left says which keys are still to come. -/
def RgAt (P : Program) (k : TypeId) (w : World) (m r N : Nat) (f : Nat → Option Value) (left : Nat → Bool) (cnt : Nat) : Prop :=
  ∃ L, w.ranges P k RH m r N (.map (kvL f 0 N)) L cnt ∧ ∀ i, i < N → L (.int .i64 (i : Int)) = left i
namespace RgAt
variable {P : Program} {k : TypeId} {w w' : World} {m r N cnt : Nat} {f : Nat → Option Value} {left : Nat → Bool}
theorem map (h : RgAt P k w m r N f left cnt) : MapAt P k w m N f := by
  obtain ⟨L, h1, _⟩ := h
  exact h1.owns
theorem lt (h : RgAt P k w m r N f left cnt) : r < w.heap.size := by
  obtain ⟨L, h1, _⟩ := h
  exact h1.lt
theorem ne (h : RgAt P k w m r N f left cnt) : r ≠ m := by
  obtain ⟨L, h1, _⟩ := h
  exact h1.ne
theorem kpd {M : List Nat} (h : RgAt P k w m r N f left cnt) (hk : Kp M w w') (hM : m ∉ M ∧ r ∉ M) : RgAt P k w' m r N f left cnt := by
  have h1 := h.map.lt
  have h2 := h.lt
  obtain ⟨L, h3, h4⟩ := h
  exact ⟨L, ranges_same h3 (hk.block m h1 hM.1) (hk.block r h2 hM.2), h4⟩
theorem new (h : RgAt P k w m r N f left cnt) (hb : Below w.heap.size w w') : RgAt P k w' m r N f left cnt := h.kpd (M := []) (Kp.of_below hb) (by simp)
theorem only {g : Nat} (h : RgAt P k w m r N f left cnt) (ho : Only g w w') (hg : m ≠ g ∧ r ≠ g) : RgAt P k w' m r N f left cnt := h.kpd (Kp.of_only ho) (by simpa using hg)
end RgAt
section
variable {P : Program} {ρ : Env} {w : World} {d : Option Nat} {ty : TypeId} {pos : String} {af : Array Edge} {gd : Option (Nat × Bool)} {K : Value → World → Prop} {Kw : World → Prop}
theorem mk_rangeM {t k e : TypeId} {x : Operand} {m N : Nat} {f : Nat → Option Value} (ht : P.underlying t = some (.map k e)) (hk : P.underlying k = some (.int .i64)) (hm : MapAt P k w m N f) (hx : ev ρ x = .map (some m))
    (h : ∀ r w' cnt, w.heap.size ≤ r → RgAt P k w' m r N f (fun i => (f i).isSome) cnt → Below w.heap.size w w' → K (.pointer (some ⟨r, 0, none⟩)) w') : Mk P ρ w ⟨d, .range t x, ty, pos, af, gd⟩ K := by
  obtain ⟨w', hr, h1, h2, h3⟩ := World.ownsMap.range hm (int_keyed hk) ht
  refine ⟨_, w', ?_, h _ w' _ (Nat.le_refl _) ⟨_, h1, fun i hi => has_kvL hi⟩ ⟨h2.os, h2.tape, h2.output, h2.size, fun i hi => h2.block i hi (by simp)⟩⟩
  simp [execOp, hx, hr, Result.andThen]
theorem mk_nextM {x : Operand} {k : TypeId} {m r N cnt : Nat} {f : Nat → Option Value} {left : Nat → Bool} (hk : P.underlying k = some (.int .i64)) (hg : RgAt P k w m r N f left cnt) (hx : ev ρ x = .pointer (some ⟨r, 0, none⟩))
    (h0 : (∀ i, i < N → left i = false) → K (.tuple #[.bool false]) w)
    (h1 : ∀ (i : Nat) (v : Value) (w' : World) (cnt' : Nat), i < N → left i = true → f i = some v → RgAt P k w' m r N f (fun j => left j && !decide (j = i)) cnt' → cnt' < cnt → Only r w w' →
      (Instr.entry (.pointer (some ⟨r, 0, none⟩))).run P w' = .ok (.tuple #[.int .i64 (i : Int), v]) w' → K (.tuple #[.bool true, .int .i64 (i : Int), v]) w') : Mk P ρ w ⟨d, .next x false, ty, pos, af, gd⟩ K := by
  obtain ⟨L, hg, hL⟩ := hg
  rcases hg.next (int_keyed hk) ty with ⟨hc, hl, hrun⟩ | ⟨key, v, kl, y, w', cnt', hkey, hlk, hv, hat, hrun, hrg, hlt, hgr, hsz, hen⟩
  · exact ⟨_, _, by simp [execOp, hx, hrun, Result.andThen], h0 fun i hi => by rw [← hL i hi]; exact hl _⟩
  · obtain ⟨z, hz⟩ := ranges_key hg hlk rfl
    obtain ⟨i, u, _, hi, hfi, he⟩ := kvL_mem' hz
    have hkl : kl = .int .i64 (i : Int) := congrArg Prod.fst he
    obtain ⟨a, rfl, ekl, _⟩ := Maps.keyOf_int_inv hk hkey
    rw [hkl] at ekl
    injection ekl with _ ekl
    subst ekl
    have hi' : i < N := by omega
    have hu : u = v := by
      have h3 := hat (.held u)
      rw [hkl] at h3
      have h4 : (some (DataW.held v, ([] : List MemPlace))) = some y := hv
      injection h4 with h4
      rw [← h4] at h3
      unfold DataW.atKey at h3
      simp only [kvL_find N 0 (Nat.zero_le _) (by omega : i < 0 + N), hfi] at h3
      injection h3
    subst hu
    refine ⟨_, w', by simp [execOp, hx, hrun, Result.andThen], h1 i u w' cnt' hi' (by rw [← hL i hi', ← hkl]; exact hlk) hfi ⟨_, hrg, fun j hj => ?_⟩ hlt ⟨hgr.os, hgr.tape, hgr.output, hsz, fun q hq => ?_⟩ hen⟩
    · rw [hL j hj, hkl, same_int]
    · by_cases hql : q < w.heap.size
      · exact hgr.block q hql (by simpa using hq)
      · rw [Array.getElem?_eq_none (by omega), Array.getElem?_eq_none (by omega)]
theorem rn_entry {x : Operand} {r : Nat} {v : Value} (hx : ev ρ x = .pointer (some ⟨r, 0, none⟩)) (hen : (Instr.entry (.pointer (some ⟨r, 0, none⟩))).run P w = .ok v w) : (execOp (ev ρ) ⟨d, .entry x, ty, pos, af, gd⟩).run P w = .ok (.value v) w := by
  simp [execOp, hx, hen, Result.andThen]
theorem sk_mapUpdR {t k e : TypeId} {x y u : Operand} {m r N cnt : Nat} {f : Nat → Option Value} {left : Nat → Bool} {a : Int} (v v0 : Value) (ht : P.underlying t = some (.map k e)) (hk : P.underlying k = some (.int .i64))
    (hg : RgAt P k w m r N f left cnt) (hx : ev ρ x = .map (some m)) (hy : ev ρ y = .int .i64 a) (hu : ev ρ u = v) (i : Nat) (ha : a = (i : Int)) (hi : i < N) (hN : N ≤ 1000000) (hf : f i = some v0)
    (h : ∀ w', RgAt P k w' m r N (updF f i (some v)) left cnt → Only m w w' → Kw w') : Sk P ρ w ⟨d, .mapUpdate t x y u, ty, pos, af, gd⟩ Kw := by
  subst ha
  obtain ⟨L, hg, hL⟩ := hg
  obtain ⟨w', hr, h1, h2⟩ := ranges_store hg (int_keyed hk) ht (by unfold maxLen; omega) (keyOf_int_mk hk (i64_wf (i := i) (by omega))) (val := v) (d := .held v) (ps := []) rfl rfl (mem_kvL hf (Nat.zero_le _) (by omega))
  refine ⟨w', ?_, h w' ⟨L, ?_, hL⟩ (turned_only h2)⟩
  · simp [execOp, hx, hy, hu, hr, Result.andThen]
  · have e : DataW.put (.map (kvL f 0 N)) (.int .i64 (i : Int)) (.held v) = .map (kvL (updF f i (some v)) 0 N) := by
      unfold DataW.put
      simp only [kvL_del]
      rw [kvL_ins N 0 (if_pos rfl) (Nat.zero_le _) (by omega)]
      congr 1
      exact kvL_congr N 0 fun j _ _ => by unfold updF; split <;> rfl
    rw [e] at h1
    exact ranges_tight h1 (kvL_len _ _ _)
end
end Coup
